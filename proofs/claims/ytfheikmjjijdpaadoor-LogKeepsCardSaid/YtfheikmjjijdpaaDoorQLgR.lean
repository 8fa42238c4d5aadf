/-
  ytfheikmjjijdpaadoor: laws and walks on the road to LogKeeps, joined: LgN LgO LgQ LgR. Conditions stand at each theorem.
-/
import Derived.Test.YtfheikmjjijdpaaDoorQLgM
import Derived.Test.YtfheikmjjijdpaaDoorQLhK
namespace Go.Proofs.YtfheikmjjijdpaaDoor
open Go.RowKit Go.Maps
set_option linter.unusedVariables false
set_option linter.unusedSimpArgs false

theorem comW_ok (n : Int) (h : I64 n) : (comW n).Ok := by
  have z : I64 0 := ⟨by decide, by decide⟩
  exact ⟨z, h, z, z, (show isByte 3 from ⟨by decide, by decide⟩), z, by simp [comW], by simp [comW], by simp [comW], by simp [comW], by simp [comW]⟩
theorem com7_right : rightR (comW 7) = true := by decide
theorem com8_right : rightR (comW 8) = true := by decide
theorem com7_len : (putR (comW 7)).length = 19 := by decide
theorem com8_len : (putR (comW 8)).length = 19 := by decide
theorem com_is (n : Int) (w : World) : RecIs w (comW n) RecS.nil := by
  have hb : SlB w Sl.nil [] := ⟨⟨BytR.none_ w, fun _ => ⟨rfl, rfl⟩⟩, Nat.le_refl _, by unfold Sl.nil maxLen; simp, Nat.zero_le _⟩
  have hp : SlP w Sl.nil [] := ⟨CelR.none_ w, rfl, fun _ => ⟨rfl, rfl⟩, Nat.le_refl _, by unfold Sl.nil maxLen; simp, Nat.zero_le _⟩
  exact ⟨hb, hb, hb, hp, hp⟩
def awD : DA := (((DA.new 8).write 2 (shtL 0 1 0 (putR (comW 7)))).sync).wake []
theorem awD_2 : awD.lat 2 = shtL 0 1 0 (putR (comW 7)) := by rfl
theorem awD_3 : awD.lat 3 = noughts := by rfl
set_option maxRecDepth 100000 in
set_option maxHeartbeats 4000000 in
theorem awake20_any (w : World) : Calls Tryd.prog 5 #[] w (OkNew w) := by
  go_enter Tryd.func5, Tryd.ntmps5
  go_wp2_with fail
  refine (new_yes 8 w (by omega) (by omega)).mono ?_
  rintro e w1 ⟨d, ms, mo, rfl, hd, t1, hnew, _⟩
  have D1 := Lib.hid hd
  have T1 := Lib.hid t1
  have HN := Lib.hid hnew
  have HdB := Lib.hid (fun i (hi : dskW d ms mo i) => hd.lt hi)
  clear hd t1 hnew
  go_wp2_with fail
  refine (lopen_zero d ms mo (DA.new 8) 2 4 1 w1 D1.out rfl (by omega) (by omega) (by show (2 : Int) + 4 ≤ 8; omega) ⟨by omega, by omega⟩ rfl).mono ?_
  rintro e w2 ⟨L, S, g, gb, cS, rfl, l2, t2⟩
  have L2 := Lib.hid l2
  have T2 := Lib.hid (T1.out.and_ t2)
  have D2 := Lib.hid (D1.out.fresh t2)
  have s12 := Lib.hid t2.size
  clear l2 t2 D1
  go_wp2_with fail
  refine (commit20_any 7 w2).mono ?_
  rintro e w3 ⟨rfl, t3⟩
  have L3 := Lib.hid (L2.out.fresh t3)
  have T3 := Lib.hid (T2.out.and_ t3)
  have D3 := Lib.hid (D2.out.fresh t3)
  have s13 := Lib.hid (Nat.le_trans s12.out t3.size)
  clear t3 L2 D2 T2 s12
  go_wp2_with fail
  refine (lapp_fit w1.heap.size (LgS.new L d S g gb 2 4 1 cS) (comW 7) RecS.nil w3 L3.out com7_right (com_is 7 w3) s13.out (by rw [com7_len]; omega) (by show 0 < 10000000; omega) (by rw [com7_len]; show 0 + 19 ≤ 496; omega)).mono ?_
  rintro e w4 ⟨gb1, c1, Al1, cl1, rfl, l4, t4⟩
  have ol := l4.lsn.some_ (show 0 < 1 by omega)
  obtain ⟨al1, eal, _⟩ := ol
  simp only at eal
  subst eal
  have L4 := Lib.hid (show LogW w4 w1.heap.size ⟨L, d, S, g, gb1, 2, 4, 1, 1, 0, cS, [], some ⟨al1, 0, none⟩, cl1, [1], 0, 1, 0, 0, 0, putR (comW 7), c1, true⟩ from l4)
  have T4 := Lib.hid (T3.out.trans (W := fun _ => False) t4 (fun _ e => e) (fun i e => .inr (by have h1 := T1.out.size; have h2 : w1.heap.size ≤ i := e; omega)))
  have D4 := Lib.hid (D3.out.turned t4 (fun q hq e => by have h1 := HdB.out q hq; have h2 : w1.heap.size ≤ q := e; omega))
  have s14 := Lib.hid (Nat.le_trans s13.out t4.size)
  clear l4 t4 L3 D3 T3 s13
  rw [show (LgS.new L d S g gb 2 4 1 cS).num * 512 + ((LgS.new L d S g gb 2 4 1 cS).body.length : Int) + 1 = 1 from rfl]
  go_wp2_with fail
  refine (lforce_any w1.heap.size ms mo al1 0 ⟨L, d, S, g, gb1, 2, 4, 1, 1, 0, cS, [], some ⟨al1, 0, none⟩, cl1, [1], 0, 1, 0, 0, 0, putR (comW 7), c1, true⟩ (DA.new 8) w4 L4.out rfl D4.out rfl rfl HdB.out s14.out (by show (putR (comW 7)).length < 496; rw [com7_len]; omega) (putR_bytes com7_right (comW_ok 7 (by unfold I64; decide))) (by show (0 : Int) ≤ 2; omega) (by show (2 : Int) + 4 ≤ 8; omega) rfl (by show (0 : Int) ≤ 0; omega) (by show (0 : Int) < ((putR (comW 7)).length : Int); rw [com7_len]; omega) (by simp) (by show ([1] : List Int).countP (· < 0 * 512 + 0 + 1) = 0; decide) (by show 0 < 1; omega) (by show (1 : Int) ≠ 0 * 512 + ((putR (comW 7)).length : Int) + 1; rw [com7_len]; decide)).mono ?_
  rintro e w5 ⟨rfl, d5, l5, t5⟩
  have L5 := Lib.hid (show LogW w5 w1.heap.size ⟨L, d, S, g, gb1, 2, 4, 1, 1, 0, cS, [], some ⟨al1, 0, none⟩, cl1, [1], 0, 1, 0, 0, 19, putR (comW 7), c1, false⟩ by have h9 := l5; rw [com7_len] at h9; exact h9)
  have D5 := Lib.hid (show IsDisk w5 d ms mo ((DA.new 8).write 2 (shtL 0 1 0 (putR (comW 7)))).sync from d5)
  have hgB : w1.heap.size ≤ g := L4.out.bg
  have T5 := Lib.hid (T4.out.trans (W := fun _ => False) t5 (fun _ e => e) (fun i e => .inr (e.elim (fun e => by have h1 := T1.out.size; have h2 : i = g := e; omega) (fun e => HN.out i e))))
  have s15 := Lib.hid (Nat.le_trans s14.out t5.size)
  clear l5 d5 t5 L4 D4 T4 s14
  go_wp2_with fail
  refine (commit20_any 8 w5).mono ?_
  rintro e w6 ⟨rfl, t6⟩
  have L6 := Lib.hid (L5.out.fresh t6)
  have T6 := Lib.hid (T5.out.and_ t6)
  have D6 := Lib.hid (D5.out.fresh t6)
  have s16 := Lib.hid (Nat.le_trans s15.out t6.size)
  clear t6 L5 D5 T5 s15
  go_wp2_with fail
  refine (lapp_fit w1.heap.size ⟨L, d, S, g, gb1, 2, 4, 1, 1, 0, cS, [], some ⟨al1, 0, none⟩, cl1, [1], 0, 1, 0, 0, 19, putR (comW 7), c1, false⟩ (comW 8) RecS.nil w6 L6.out com8_right (com_is 8 w6) s16.out (by rw [com8_len]; omega) (by show 1 < 10000000; omega) (by show (putR (comW 7)).length + (putR (comW 8)).length ≤ 496; rw [com7_len, com8_len]; omega)).mono ?_
  rintro e w7 ⟨gb2, c2, Al2, cl2, rfl, l7, t7⟩
  have ol := l7.lsn.some_ (show 0 < 2 by omega)
  obtain ⟨al2, eal, _⟩ := ol
  simp only at eal
  subst eal
  have L7 := Lib.hid (show LogW w7 w1.heap.size ⟨L, d, S, g, gb2, 2, 4, 1, 1, 0, cS, [], some ⟨al2, 0, none⟩, cl2, [1, 20], 0, 1, 0, 0, 19, putR (comW 7) ++ putR (comW 8), c2, false⟩ by have h9 := l7; simp only at h9; rw [com7_len] at h9; exact h9)
  have T7 := Lib.hid (T6.out.trans (W := fun _ => False) t7 (fun _ e => e) (fun i e => .inr (by have h1 := T1.out.size; have h2 : w1.heap.size ≤ i := e; omega)))
  have D7 := Lib.hid (D6.out.turned t7 (fun q hq e => by have h1 := HdB.out q hq; have h2 : w1.heap.size ≤ q := e; omega))
  clear l7 t7 L6 D6 T6 s16
  simp only
  rw [com7_len]
  rw [show (0 : Int) * 512 + ((19 : Nat) : Int) + 1 = 20 from rfl]
  go_wp2_with fail
  have hsf := lsafe_any w1.heap.size al2 1 ⟨L, d, S, g, gb2, 2, 4, 1, 1, 0, cS, [], some ⟨al2, 0, none⟩, cl2, [1, 20], 0, 1, 0, 0, 19, putR (comW 7) ++ putR (comW 8), c2, false⟩ w7 L7.out rfl rfl (by show (0 : Int) ≤ 19; omega) (by show (19 : Int) < ((putR (comW 7) ++ putR (comW 8)).length : Int); rw [List.length_append, com7_len, com8_len]; omega) (by simp) (by show ([1, 20] : List Int).countP (· < 0 * 512 + 19 + 1) = 1; decide) (by show 1 < 2; omega)
  refine hsf.mono ?_
  clear hsf
  simp only
  rw [show ([1, 20] : List Int).getD 1 0 = 20 from rfl]
  rintro e w8 ⟨rfl, t8⟩
  have L8 := Lib.hid (L7.out.fresh t8)
  have T8 := Lib.hid (T7.out.and_ t8)
  have D8 := Lib.hid (D7.out.fresh t8)
  clear t8 L7 D7 T7
  go_wp2_with fail
  refine (lroom_any _ _ _ _ _ _ _ _ _ _ _ w8 L8.out.read).mono ?_
  simp only
  rw [show max ((4 : Int) - 1 - ((0 + 1 : Nat) : Int) - 1) 0 * 248 = 248 from by decide]
  rintro e w9 ⟨rfl, t9⟩
  have T9 := Lib.hid (T8.out.and_ t9)
  have D9 := Lib.hid (D8.out.fresh t9)
  clear t9 D8 T8 L8
  go_wp2_with fail
  refine (wake_any d ms mo _ none 0 0 [] w9 D9.out ⟨rfl, by omega, by simp, by omega⟩).mono ?_
  rintro e w10 ⟨rfl, d10, t10⟩
  have D10 := Lib.hid (show IsDisk w10 d ms mo awD from d10)
  have T10 := Lib.hid (T9.out.trans (W := fun _ => False) t10 (fun _ e => e) (fun i e => .inr (HN.out i e)))
  clear d10 t10 D9 T9
  go_wp2_with fail
  have hps : putsL [comW 7] = putR (comW 7) := by simp [putsL]
  refine (lopen_one d ms mo awD 2 4 2 1 [comW 7] w10 D10.out rfl (by omega) (by omega) (by show (2 : Int) + 4 ≤ 8; omega) ⟨by omega, by omega⟩ (by omega) (fun R hR => by rw [List.mem_singleton.1 hR]; exact ⟨com7_right, comW_ok 7 ⟨by decide, by decide⟩⟩) (by rw [hps, com7_len]; omega) (by rw [hps, com7_len]; omega) (by rw [hps]; exact awD_2) awD_3).mono ?_
  rintro e w11 ⟨L9, S9, g9, gb9, cS9, al9, cl9, c9, rfl, l11, t11⟩
  have L11 := Lib.hid l11
  have T11 := Lib.hid (T10.out.and_ t11)
  clear l11 t11 D10 T10
  go_wp2_with fail
  have hen := lend_any _ _ _ _ _ _ _ _ _ _ _ w11 L11.out.read
  unfold LgS.one at hen
  simp only at hen
  rw [hps, com7_len, show (0 : Int) * 512 + ((19 : Nat) : Int) + 1 = 20 from rfl] at hen
  refine hen.mono ?_
  clear hen
  rintro e w12 ⟨rfl, t12⟩
  have L12 := Lib.hid (L11.out.fresh t12)
  have T12 := Lib.hid (T11.out.and_ t12)
  clear t12 L11 T11
  go_wp2_with fail
  refine (lrd_any _ L9 d S9 g9 gb9 2 4 2 cS9 al9 cl9 c9 1 (comW 7) w12 L12.out com7_right (comW_ok 7 ⟨by decide, by decide⟩)).mono ?_
  rintro e w13 ⟨SS, rfl, t13⟩
  unfold recC Rec.bare comW
  simp only
  have L13 := Lib.hid (L12.out.fresh t13)
  have T13 := Lib.hid (T12.out.and_ t13)
  clear t13 L12 T12
  go_wp2_with fail
  refine (lfr_any _ L9 d S9 g9 gb9 2 4 2 cS9 al9 cl9 c9 1 (comW 7) _ (L13.out.fresh ((Turned.refl (fun _ => False) w13).alloc _)) com7_right (comW_ok 7 ⟨by decide, by decide⟩)).mono ?_
  rintro e w14 ⟨A, cc, rfl, t14⟩
  have T14 := Lib.hid ((T13.out.alloc _).and_ t14)
  clear t14
  go_wp2_with fail
  go_ret
  exact ⟨rfl, T14.out⟩
end Go.Proofs.YtfheikmjjijdpaaDoor

namespace Go.Proofs.YtfheikmjjijdpaaDoor
open Go.RowKit Go.Maps
set_option linter.unusedVariables false
set_option linter.unusedSimpArgs false

/-- No log: nil, or one that nobody opened. -/
def NoLog (p : Option Addr) (w : World) : Prop := p = none ∨ ∃ L, p = some ⟨L, 0, none⟩ ∧ w.cell? ⟨L, 0, none⟩ = some (.pointer none)
theorem NoLog.fresh {p : Option Addr} {w w' : World} (h : NoLog p w) (ht : Turned (fun _ => False) w w') : NoLog p w' := h.elim .inl (fun ⟨L, e, hc⟩ => .inr ⟨L, e, cell_turned ht hc (fun e => e)⟩)
/-! Open's refusals. -/
end Go.Proofs.YtfheikmjjijdpaaDoor

namespace Go.Proofs.YtfheikmjjijdpaaDoor
open Go.RowKit Go.Maps
set_option linter.unusedVariables false
set_option linter.unusedSimpArgs false

def SomeB (w : World) (e : Ending) (w' : World) : Prop := ∃ b, e = .returned (.bool b) ∧ Turned (fun _ => False) w w'
set_option maxRecDepth 100000 in
set_option maxHeartbeats 2000000 in
theorem small20_any (R : Rec) (S : RecS) (w : World) (h : RecIs w R S) : Calls Tryd.prog 13 #[.agg (recC R S)] w (SomeB w) := by
  have b1 := h.key.few; have b2 := h.old.few; have b3 := h.new.few; have b4 := h.dirty.few; have b5 := h.opn.few
  have T0 := Lib.hid ((Turned.refl (fun _ => False) w).alloc (.cells (recC R S) 39))
  clear h
  obtain ⟨lsn, work, prev, next, kind, page, key, old, new, dirty, opn⟩ := R
  obtain ⟨⟨KA, Kn, Kc⟩, ⟨OA, On, Oc⟩, ⟨NA, Nn, Nc⟩, ⟨DA, Dn, Dc⟩, ⟨PA, Pn, Pc⟩⟩ := S
  unfold recC at *
  simp only at *
  by_cases h1 : (Kn : Int) + (On : Int) + (Nn : Int) ≤ 2000
  · by_cases h2 : (Dn : Int) + (Pn : Int) ≤ 300
    · go_enter Tryd.func13, Tryd.ntmps13
      go_wp2
      go_ret
      exact ⟨_, rfl, T0.out⟩
    · go_enter Tryd.func13, Tryd.ntmps13
      go_wp2
      go_ret
      exact ⟨_, rfl, T0.out⟩
  · go_enter Tryd.func13, Tryd.ntmps13
    go_wp2
    go_ret
    exact ⟨_, rfl, T0.out⟩
end Go.Proofs.YtfheikmjjijdpaaDoor

namespace Go.Proofs.YtfheikmjjijdpaaDoor
open Go.RowKit Go.Maps
set_option linter.unusedVariables false
set_option linter.unusedSimpArgs false

def turW (n : Nat) (zs : List Int) : Rec := ⟨0, 1 + (n : Int), 0, 0, 1, (n : Int) % 50, [(n : Int) % 256], [], zs, [], []⟩
/-- The blocks of a record's lists. -/
def RecS.at (S : RecS) (i : Nat) : Prop := (0 < S.K.n ∧ ∃ o, S.K.A = some ⟨i, o, none⟩) ∨ (0 < S.O.n ∧ ∃ o, S.O.A = some ⟨i, o, none⟩) ∨ (0 < S.N.n ∧ ∃ o, S.N.A = some ⟨i, o, none⟩) ∨ (0 < S.D.n ∧ ∃ o, S.D.A = some ⟨i, o, none⟩) ∨ (0 < S.P.n ∧ ∃ o, S.P.A = some ⟨i, o, none⟩)
theorem RecS.nil_at (i : Nat) : ¬ RecS.nil.at i := fun h => by
  rcases h with ⟨_, o, e⟩ | ⟨_, o, e⟩ | ⟨_, o, e⟩ | ⟨_, o, e⟩ | ⟨_, o, e⟩ <;> cases e
/-- What of leaves: a right record that is small. -/
def OfP (w : World) (e : Ending) (w' : World) : Prop := ∃ R S, e = .returned (.agg (recC R S)) ∧ RecIs w' R S ∧ rightR R = true ∧ R.Ok ∧ (putR R).length ≤ 496 ∧ Turned (fun _ => False) w w' ∧ ∀ i, S.at i → w.heap.size ≤ i
theorem turW_right (n : Nat) (zs : List Int) (h0 : 0 < zs.length) (h1 : zs.length ≤ 180) (hn : n < 4000) : rightR (turW n zs) = true := by
  have hp : pagedB ((n : Int) % 50) = true := by unfold pagedB; simp; omega
  unfold rightR turW kindB turnB
  simp [hp]
  omega
theorem turW_len (n : Nat) (zs : List Int) (h0 : 0 < zs.length) (h1 : zs.length ≤ 180) (hn : n < 4000) : (putR (turW n zs)).length ≤ 496 := by
  rw [rput_yes (turW_right n zs h0 h1 hn), List.length_append, be_length]
  unfold bodyL restL turW turnL rowL
  simp [be_length]
  omega
theorem turW_ok (n : Nat) (zs : List Int) (hn : n < 4000) (hz : ∀ z ∈ zs, isByte z) : (turW n zs).Ok := by
  have z : I64 0 := ⟨by decide, by decide⟩
  exact ⟨z, (show I64 (1 + (n : Int)) from ⟨by omega, by omega⟩), z, z, (show isByte 1 from ⟨by decide, by decide⟩), (show I64 ((n : Int) % 50) from ⟨by omega, by omega⟩), (fun y hy => by rw [List.mem_singleton.1 hy]; exact ⟨by omega, by omega⟩), by simp [turW], hz, by simp [turW], by simp [turW]⟩
theorem com_right (k : Int) (h : 1 ≤ k) : rightR (comW k) = true := by
  unfold rightR comW kindB bareB
  simp
  omega
theorem com_few (k : Int) : (putR (comW k)).length ≤ 496 := by
  by_cases h : rightR (comW k) = true
  · rw [rput_yes h, List.length_append, be_length]
    unfold bodyL restL comW
    simp [be_length]
  · unfold putR
    rw [if_neg h]
    simp
set_option maxRecDepth 100000 in
set_option maxHeartbeats 1000000 in
theorem of_com (n : Nat) (w : World) (hn : n < 4000) (h4 : (n : Int) % 4 = 0) : Calls Tryd.prog 9 #[.int .i64 n] w (OfP w) := by
  have hni : (n : Int) < 4000 := by omega
  have h4t : (n : Int).tmod 4 = 0 := by rw [Int.tmod_eq_emod_of_nonneg (by omega)]; exact h4
  have B0 := Lib.hid (Blk.new w 39 (#[.int .i64 0, .int .i64 0, .int .i64 0, .int .i64 0, .int .u8 0, .int .i64 0, .slice none 0 0, .slice none 0 0, .slice none 0 0, .slice none 0 0, .slice none 0 0]))
  have T0 := Lib.hid ((Turned.refl (fun _ => False) w).alloc (.cells (#[.int .i64 0, .int .i64 0, .int .i64 0, .int .i64 0, .int .u8 0, .int .i64 0, .slice none 0 0, .slice none 0 0, .slice none 0 0, .slice none 0 0, .slice none 0 0]) 39))
  go_enter Tryd.func9, Tryd.ntmps9
  go_wp2_with fail
  generalize w.alloc (.cells #[.int .i64 0, .int .i64 0, .int .i64 0, .int .i64 0, .int .u8 0, .int .i64 0, .slice none 0 0, .slice none 0 0, .slice none 0 0, .slice none 0 0, .slice none 0 0] 39) = w0 at *
  obtain ⟨b, hb⟩ : ∃ b, b = w.heap.size := ⟨_, rfl⟩
  rw [← hb] at B0 ⊢
  have Hb := Lib.hid hb
  clear hb
  refine (commit20_any (1 + (n : Int)) w0).mono ?_
  rintro e w1 ⟨rfl, t1⟩
  have B1 := Lib.hid (B0.out.turned t1 (fun e => e))
  have T1 := Lib.hid (T0.out.and_ t1)
  clear t1 B0 T0
  unfold recC comW RecS.nil Sl.nil
  simp only
  obtain ⟨y0, y1, y2, y3, y4, y5, y6, y7, y8, y9, y10⟩ := B1.out.cells11
  have yf := B1.out.frozen
  go_wp2_with fail
  obtain ⟨wz, hwz, XZ, tZ⟩ := fin11 (.int .i64 0) (.int .i64 (1 + (n : Int))) (.int .i64 0) (.int .i64 0) (.int .u8 3) (.int .i64 0) (.slice none 0 0) (.slice none 0 0) (.slice none 0 0) (.slice none 0 0) (.slice none 0 0) B1.out
  rw [hwz]
  clear hwz
  have TZ := T1.out.trans (W := fun _ => False) tZ (fun _ e => e) (fun i e => .inr (by have h1 := Hb.out; have h2 : i = b := e; omega))
  obtain ⟨e0, e1, e2, e3, e4, e5, e6, e7, e8, e9, e10⟩ := XZ.cells11
  refine bodyPost_ret (v := .agg #[.int .i64 0, .int .i64 (1 + (n : Int)), .int .i64 0, .int .i64 0, .int .u8 3, .int .i64 0, .slice none 0 0, .slice none 0 0, .slice none 0 0, .slice none 0 0, .slice none 0 0]) (by simp [results, Tryd.results9, go_sem, e0, e1, e2, e3, e4, e5, e6, e7, e8, e9, e10]) rfl ?_
  exact ⟨comW (1 + (n : Int)), RecS.nil, rfl, com_is _ _, com_right _ (by omega), comW_ok _ ⟨by omega, by omega⟩, com_few _, TZ, fun i hi => absurd hi (RecS.nil_at i)⟩
def turTo (n m j : Nat) : List Int := (List.range m).map fun i => if i < j then (((n : Int) + (i : Int)) % 256) else 0
theorem turTo_len (n m j : Nat) : (turTo n m j).length = m := by simp [turTo]
theorem turTo_zero (n m : Nat) : turTo n m 0 = List.replicate m 0 := by
  unfold turTo
  apply List.ext_getElem
  · rw [List.length_map, List.length_range, List.length_replicate]
  · intro i h1 h2
    rw [List.getElem_map, List.getElem_replicate, if_neg (Nat.not_lt_zero _)]
theorem turTo_step (n m j : Nat) : (turTo n m j).set j (((n : Int) + (j : Int)) % 256) = turTo n m (j + 1) := by
  unfold turTo
  apply List.ext_getElem
  · rw [List.length_set, List.length_map, List.length_map]
  · intro i h1 h2
    rw [List.getElem_set]
    simp only [List.getElem_map, List.getElem_range]
    by_cases e : j = i
    · subst e; simp
    · rw [if_neg e]
      by_cases h3 : i < j
      · rw [if_pos h3, if_pos (by omega)]
      · rw [if_neg h3, if_neg (by omega)]
theorem turTo_byte (n m j : Nat) : ∀ z ∈ turTo n m j, isByte z := fun z hz => by
  obtain ⟨i, _, rfl⟩ := List.mem_map.1 hz
  unfold isByte
  split <;> omega
theorem RowB.slB {w : World} {U g n cap : Nat} {zs : List Int} (h : RowB w U g n cap zs) (hn : n ≤ 1000000) : SlB w ⟨some ⟨g, 0, none⟩, n, cap⟩ zs := ⟨h.bytS cap, h.le, h.max, by show n ≤ 140737488355328; omega⟩
theorem one_row (w : World) (x : Int) : RowB (w.alloc (.cells #[.int .u8 x] 5)) 5 w.heap.size 1 1 [x] := ⟨rfl, Nat.le_refl _, by unfold maxLen; omega, #[.int .u8 x], Blk.new w 5 #[.int .u8 x], rfl, rfl⟩
theorem tur_is {w : World} {n g h m c : Nat} {zs : List Int} (h1 : RowB w 5 g 1 1 [(n : Int) % 256]) (h2 : RowB w 5 h m c zs) (hm : m ≤ 1000) : RecIs w (turW n zs) ⟨⟨some ⟨g, 0, none⟩, 1, 1⟩, ⟨none, 0, 0⟩, ⟨some ⟨h, 0, none⟩, m, c⟩, ⟨none, 0, 0⟩, ⟨none, 0, 0⟩⟩ := by
  have hb : SlB w Sl.nil [] := ⟨⟨BytR.none_ w, fun _ => ⟨rfl, rfl⟩⟩, Nat.le_refl _, by unfold Sl.nil maxLen; simp, Nat.zero_le _⟩
  have hp : SlP w Sl.nil [] := ⟨CelR.none_ w, rfl, fun _ => ⟨rfl, rfl⟩, Nat.le_refl _, by unfold Sl.nil maxLen; simp, Nat.zero_le _⟩
  exact ⟨h1.slB (by omega), hb, h2.slB (by omega), hp, hp⟩
def OfRel (n m : Nat) (w w1 : World) (i : Value) (wr : World) : Prop := ∃ j : Nat, j ≤ m ∧ i = .int .i64 j ∧ RowB wr 5 w1.heap.size m m (turTo n m j) ∧ Turned (fun _ => False) w1 wr
set_option maxRecDepth 100000 in
set_option maxHeartbeats 2000000 in
theorem of_tur (n : Nat) (w : World) (hn : n < 4000) (h4 : (n : Int) % 4 ≠ 0) : Calls Tryd.prog 9 #[.int .i64 n] w (OfP w) := by
  obtain ⟨i0, hi, hz0, hz1, hz2⟩ := info_parts u8info
  have hI := Lib.hid (And.intro hi (And.intro hz0 (And.intro hz1 hz2)))
  clear hi hz0 hz1 hz2
  have hni : (n : Int) < 4000 := by omega
  have h4t : (n : Int).tmod 4 = (n : Int) % 4 := Int.tmod_eq_emod_of_nonneg (by omega)
  have h4f : ((n : Int) % 4 == 0) = false := by simpa using h4
  obtain ⟨m, hm⟩ : ∃ m : Nat, m = 1 + n % 180 := ⟨_, rfl⟩
  have h180 : (n : Int).tmod 180 = (m : Int) - 1 := by rw [Int.tmod_eq_emod_of_nonneg (by omega)]; omega
  have hm1 : 1 ≤ m ∧ m ≤ 180 := by omega
  have h50 : (n : Int).tmod 50 = (n : Int) % 50 := Int.tmod_eq_emod_of_nonneg (by omega)
  have H4 := Lib.hid h4
  clear h4 hm
  have B0 := Lib.hid (Blk.new w 39 (#[.int .i64 0, .int .i64 0, .int .i64 0, .int .i64 0, .int .u8 0, .int .i64 0, .slice none 0 0, .slice none 0 0, .slice none 0 0, .slice none 0 0, .slice none 0 0]))
  have T0 := Lib.hid ((Turned.refl (fun _ => False) w).alloc (.cells (#[.int .i64 0, .int .i64 0, .int .i64 0, .int .i64 0, .int .u8 0, .int .i64 0, .slice none 0 0, .slice none 0 0, .slice none 0 0, .slice none 0 0, .slice none 0 0]) 39))
  go_enter Tryd.func9, Tryd.ntmps9
  go_wp2_with (at_make; generalize w.alloc (.cells #[.int .i64 0, .int .i64 0, .int .i64 0, .int .i64 0, .int .u8 0, .int .i64 0, .slice none 0 0, .slice none 0 0, .slice none 0 0, .slice none 0 0, .slice none 0 0] 39) = w0 at *; obtain ⟨b, hb⟩ : ∃ b, b = w.heap.size := ⟨_, rfl⟩; rw [← hb] at B0 ⊢; have Hb := Lib.hid hb; clear hb; refine wpList_make_full _ rfl _ _ 33 rfl w0.heap.size 5 i0 (.int .u8 0) 1 Tryd.underlying33 hI.out.1 hI.out.2.1 hI.out.2.2.1 .i64 .i64 _ _ m rfl rfl (by omega) (by omega) (by rw [hI.out.2.2.2]; omega) (by unfold maxLen; omega) (Nat.le_refl _) ?_; intro w1 hown hg1)
  have hrow : RowB w1 5 w0.heap.size m m (turTo n m 0) := by
    rw [turTo_zero]
    rw [made_u8] at hown
    exact RowB.of_own hown
  have ht1 : Turned (fun _ => False) w0 w1 := (Turned.refl _ w0).grown hg1 (by simp)
  have B1 := Lib.hid (B0.out.turned ht1 (fun e => e))
  have HR := Lib.hid hrow
  have HT := Lib.hid ht1
  clear hown hg1 hrow ht1
  go_loopw [4] (fun i wr => OfRel n m w w0 i wr) (fun i _ => m - (intOf i).toNat)
  case atStart => exact ⟨0, by omega, rfl, HR.out, HT.out⟩
  case round =>
    obtain ⟨j, hj, rfl, hr, ht⟩ := hrel
    by_cases hlt : j < m
    · have hc := hr.cell hlt
      have hf := hr.frozen j
      have hj' : (j : Int) < (m : Int) := by omega
      have hr' := Lib.hid hr
      clear hr
      go_wp2
      go_roundw
      case rel =>
        first
        | exact ⟨j + 1, by omega, by go_num, by rw [← turTo_step]; exact hr'.out.set j _, ht.setCell (.inr (Nat.le_refl _)) _⟩
        | ((repeat apply Exists.intro); exact ⟨⟨j + 1, by omega, by go_num, by rw [← turTo_step]; exact hr'.out.set j _, ht.setCell (.inr (Nat.le_refl _)) _⟩, rfl⟩)
      case measure => simp [intOf]; omega
    · have hjm : j = m := by omega
      have hjn : ¬ (j : Int) < (m : Int) := by omega
      have hr' := Lib.hid (show RowB wr 5 w0.heap.size m m (turTo n m m) by rw [← hjm]; rw [hjm] at hr ⊢; exact hr)
      clear hr hjm hlt
      have T1 := Lib.hid (T0.out.and_ ht)
      have TA := Lib.hid ((Turned.refl (fun _ => False) wr).alloc (.cells #[.int .u8 ((n : Int) % 256)] 5))
      have OR := Lib.hid (one_row wr ((n : Int) % 256))
      have B2 := Lib.hid ((B0.out.turned ht (fun e => e)).turned TA.out (fun e => e))
      obtain ⟨y0, y1, y2, y3, y4, y5, y6, y7, y8, y9, y10⟩ := B2.out.cells11
      have yf := B2.out.frozen
      have T2 := Lib.hid (T1.out.and_ TA.out)
      have R2 := Lib.hid (hr'.out.turned TA.out (fun e => e))
      go_wp2_with fail
      have lb0 := B0.out.lt
      have lb1 := ht.size
      obtain ⟨wz, hwz, XZ, tZ⟩ := fin11 (.int .i64 0) (.int .i64 (1 + (n : Int))) (.int .i64 0) (.int .i64 0) (.int .u8 1) (.int .i64 ((n : Int) % 50)) (.slice (some ⟨wr.heap.size, 0, none⟩) 1 1) (.slice none 0 0) (.slice (some ⟨w0.heap.size, 0, none⟩) m m) (.slice none 0 0) (.slice none 0 0) B2.out
      rw [hwz]
      clear hwz y0 y1 y2 y3 y4 y5 y6 y7 y8 y9 y10 yf
      have TZ := T2.out.trans (W := fun _ => False) tZ (fun _ e => e) (fun i e => .inr (by have h1 := Hb.out; have h2 : i = b := e; omega))
      have HI := tur_is (OR.out.turned tZ (fun e => by have h2 : wr.heap.size = b := e; omega)) (R2.out.turned tZ (fun e => by have h2 : w0.heap.size = b := e; omega)) (by omega)
      obtain ⟨e0, e1, e2, e3, e4, e5, e6, e7, e8, e9, e10⟩ := XZ.cells11
      refine bodyPost_ret (v := .agg #[.int .i64 0, .int .i64 (1 + (n : Int)), .int .i64 0, .int .i64 0, .int .u8 1, .int .i64 ((n : Int) % 50), .slice (some ⟨wr.heap.size, 0, none⟩) 1 1, .slice none 0 0, .slice (some ⟨w0.heap.size, 0, none⟩) m m, .slice none 0 0, .slice none 0 0]) (by simp [results, Tryd.results9, go_sem, e0, e1, e2, e3, e4, e5, e6, e7, e8, e9, e10]) rfl ?_
      exact ⟨turW n (turTo n m m), _, rfl, HI, turW_right n _ (by rw [turTo_len]; omega) (by rw [turTo_len]; omega) hn, turW_ok n _ hn (turTo_byte n m m), turW_len n _ (by rw [turTo_len]; omega) (by rw [turTo_len]; omega) hn, TZ, fun i hi => by
        rcases hi with ⟨_, o, e⟩ | ⟨_, o, e⟩ | ⟨_, o, e⟩ | ⟨_, o, e⟩ | ⟨_, o, e⟩
        · injection e with e; injection e with e; have h1 := T1.out.size; omega
        · cases e
        · injection e with e; injection e with e; have h1 := T0.out.size; omega
        · cases e
        · cases e⟩
theorem of_any (n : Nat) (w : World) (hn : n < 4000) : Calls Tryd.prog 9 #[.int .i64 n] w (OfP w) := by
  by_cases h4 : (n : Int) % 4 = 0
  · exact of_com n w hn h4
  · exact of_tur n w hn h4
end Go.Proofs.YtfheikmjjijdpaaDoor

