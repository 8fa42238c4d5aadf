/-
  ytglojnmcbochaaagreatdoor: laws and walks on the road to LinesTales, joined: TelB RegB. Conditions stand at each theorem.
-/
import Derived.Test.YtglojnmcbochaaaGreatDoorTTelA
import Derived.Test.YtglojnmcbochaaaGreatDoorTShf
namespace Go.Proofs.YtglojnmcbochaaaGreatDoor
open Go.RowKit Go.Maps
set_option linter.unusedVariables false
set_option linter.unusedSimpArgs false

/-- What of an answer that is no error is wrong beside its lists. -/
def wrongT (t : TellV) : Bool := decide (t.id < 0) || (decide (t.day < -1) || (decide (4000 < t.day) || ((!decide (t.code = []) && !codeL t.code) || (decide (3 < t.state) || (decide (300 < t.lots.length) || decide (2000 < t.uses.length))))))
theorem rightT_eq (t : TellV) (hid : t.id ≤ 9223372036854775807) : rightT t = (if t.err < 0 ∨ 999 < t.err then false else if 0 < t.err then bareT t else if wrongT t then false else (t.lots.all lotB && t.uses.all useB)) := by
  unfold rightT
  by_cases h1 : t.err < 0 ∨ 999 < t.err
  · rw [if_pos h1, if_pos h1]
  · rw [if_neg h1, if_neg h1]
    by_cases h2 : t.err = 0
    · rw [if_neg (by omega), if_neg (by omega)]
      unfold wrongT withinB
      rw [Bool.eq_iff_iff]
      cases hc : codeL t.code <;> cases hl : t.lots.all lotB <;> cases hu : t.uses.all useB <;> by_cases he : t.code = [] <;> simp [he] <;> intros <;> omega
    · rw [if_pos h2, if_pos (by omega)]
/-- The list's end: whether all of them are right. -/
theorem all_take {α : Type} (p : α → Bool) (l : List α) (d : α) (j : Nat) (hj : j < l.length) : (l.take (j + 1)).all p = ((l.take j).all p && p (l.getD j d)) := by
  rw [List.take_succ_eq_append_getElem hj, List.all_append]
  simp [List.getD_eq_getElem?_getD, hj]
theorem all_no {α : Type} (p : α → Bool) (l : List α) (d : α) (j : Nat) (hj : j < l.length) (h : p (l.getD j d) = false) : l.all p = false := by
  cases hu : l.all p with
  | false => rfl
  | true =>
    rw [List.all_eq_true] at hu
    have := hu (l.getD j d) (by rw [List.getD_eq_getElem?_getD, List.getElem?_eq_getElem hj]; exact List.getElem_mem hj)
    rw [h] at this
    cases this
theorem wrap_zero (a b : Nat) (ha : a ≤ 9223372036854775807) (hb : b ≤ 9223372036854775807) : wrap64 ((a : Int) + (b : Int)) = 0 ↔ a + b = 0 := by
  unfold wrap64
  omega
def TrRel (n : Nat) (w : World) (b : Nat) (cs : Array Value) (P : Nat → Prop) (i : Value) (wr : World) : Prop := ∃ j : Nat, j ≤ n ∧ i = .int .i64 j ∧ P j ∧ Blk wr b 42 cs ∧ Turned (fun _ => False) w wr
set_option maxRecDepth 100000 in
set_option maxHeartbeats 4000000 in
theorem tell_right_any (t : TellV) (S : TellS) (w : World) (h : TellIs w t S) (hok : t.Ok) : Calls Tryz.prog 78 #[.agg (tellC t S)] w (BoolNew (rightT t) w) := by
  have hR := rightT_eq t (by have := hok.id; unfold I64 at this; omega)
  have hcode := Lib.hid (fun W => code_right_any t.code W hok.code)
  unfold strV at hcode
  have hl1 := SlL.len h.lots
  have hl2 := SlU.len h.uses
  have hb1 := Nat.le_trans h.lots.le h.lots.max
  have hb2 := Nat.le_trans h.uses.le h.uses.max
  unfold maxLen at hb1 hb2
  have hLk := hok.lots
  have hst := hok.state
  have hid := hok.id
  have hdy := hok.day
  unfold isByte at hst
  unfold I64 at hid hdy
  obtain ⟨er, id, dy, cd, st, lots, uses⟩ := t
  obtain ⟨⟨LA, Ln, Lc⟩, ⟨UA, Un, Uc⟩⟩ := S
  simp only at hR hcode hl1 hl2 hb1 hb2 hLk hst hid hdy
  have hL := Lib.hid h.lots
  have hU := Lib.hid h.uses
  have hLk' := Lib.hid hLk
  have hR' := Lib.hid hR
  have hl1' := Lib.hid hl1
  have hl2' := Lib.hid hl2
  clear h hok hl1 hl2 hLk hR
  unfold tellC strV
  simp only
  have hsl0 : (⟨cd.toArray⟩ : ByteArray).toList = cd := by rw [ByteArray.toList_eq]
  generalize (⟨cd.toArray⟩ : ByteArray) = str at *
  have hsl := Lib.hid hsl0
  clear hsl0
  go_enter Tryz.func78, Tryz.ntmps78
  go_upto_region 1 with fail
  have T0 := Lib.hid ((Turned.refl (fun _ => False) w).alloc (.cells #[.int .i64 er, .int .i64 id, .int .i64 dy, .string str, .int .u8 st, .slice LA Ln Lc, .slice UA Un Uc] 42))
  have B0 := Lib.hid (Blk.new w 42 #[.int .i64 er, .int .i64 id, .int .i64 dy, .string str, .int .u8 st, .slice LA Ln Lc, .slice UA Un Uc])
  obtain ⟨W1, hW1⟩ : ∃ W1, W1 = w.alloc (.cells #[.int .i64 er, .int .i64 id, .int .i64 dy, .string str, .int .u8 st, .slice LA Ln Lc, .slice UA Un Uc] 42) := ⟨_, rfl⟩
  rw [← hW1] at T0 B0 ⊢
  clear hW1
  obtain ⟨b1, hb⟩ : ∃ b1, w.heap.size = b1 := ⟨_, rfl⟩
  rw [hb] at B0 ⊢
  clear hb
  obtain ⟨x0, x1, x2, x3, x4, x5, x6⟩ := B0.out.cells7
  go_cut [3] from 8 to 35 (fun u3 wc => u3 = .bool (bareT ⟨er, id, dy, cd, st, lots, uses⟩) ∧ wc = W1)
  case first =>
    by_cases h1 : id = 0
    · have e1 : (id == 0) = true := by rw [h1]; rfl
      have h1' := Lib.hid h1
      clear h1
      by_cases h2 : dy = 0
      · have e2 : (dy == 0) = true := by rw [h2]; rfl
        have h2' := Lib.hid h2
        clear h2
        by_cases h3 : cd = []
        · have e3 : str.toList = [] := by rw [hsl.out, h3]
          have e4 : str.toList.isEmpty = true := by rw [e3]; rfl
          have h3' := Lib.hid h3
          clear h3
          by_cases h4 : st = 0
          · have e5 : (st == 0) = true := by rw [h4]; rfl
            have h4' := Lib.hid h4
            clear h4
            go_wp2_with fail
            go_meet
            refine ⟨congrArg Value.bool ?_, rfl⟩
            unfold bareT
            rw [h1'.out, h2'.out, h3'.out, h4'.out]
            have hz := wrap_zero Ln Un (by omega) (by omega)
            have g1 : (lots = []) ↔ Ln = 0 := by rw [← hl1'.out]; exact List.length_eq_zero_iff.symm
            have g2 : (uses = []) ↔ Un = 0 := by rw [← hl2'.out]; exact List.length_eq_zero_iff.symm
            rw [Bool.eq_iff_iff]
            simp only [beq_iff_eq, Bool.and_eq_true, decide_eq_true_eq, g1, g2, hz, true_and]
            omega
          · have e5 : (st == 0) = false := beq_eq_false_iff_ne.2 h4
            go_wp2_with fail
            go_meet
            exact ⟨by unfold bareT; simp [h4], rfl⟩
        · have e3 : str.toList ≠ [] := by rw [hsl.out]; exact h3
          have e4 : str.toList.isEmpty = false := by rw [hsl.out]; cases cd with | nil => exact absurd rfl h3 | cons a l => rfl
          have h3' := Lib.hid h3
          clear h3
          go_wp2_with fail
          go_meet
          exact ⟨by unfold bareT; simp [h3'.out], rfl⟩
      · have e2 : (dy == 0) = false := beq_eq_false_iff_ne.2 h2
        go_wp2_with fail
        go_meet
        exact ⟨by unfold bareT; simp [h2], rfl⟩
    · have e1 : (id == 0) = false := beq_eq_false_iff_ne.2 h1
      go_wp2_with fail
      go_meet
      exact ⟨by unfold bareT; simp [h1], rfl⟩
  case rest =>
    obtain ⟨rfl, rfl⟩ := hcut
    generalize bareT ⟨er, id, dy, cd, st, lots, uses⟩ = bare at *
    have hw := Lib.hid (show wrongT ⟨er, id, dy, cd, st, lots, uses⟩ = (decide (id < 0) || (decide (dy < -1) || (decide (4000 < dy) || ((!decide (cd = []) && !codeL cd) || (decide (3 < st) || (decide (300 < Ln) || decide (2000 < Un))))))) from by unfold wrongT; rw [hl1'.out, hl2'.out])
    generalize wrongT ⟨er, id, dy, cd, st, lots, uses⟩ = wrg at *
    by_cases k1 : er < 0
    · go_wp2_with fail
      go_ret
      exact ⟨ret_bool (by rw [hR'.out, if_pos (.inl k1)]), T0.out⟩
    by_cases k2 : 999 < er
    · go_wp2_with fail
      go_ret
      exact ⟨ret_bool (by rw [hR'.out, if_pos (.inr k2)]), T0.out⟩
    have hR2 := Lib.hid (show rightT ⟨er, id, dy, cd, st, lots, uses⟩ = (if 0 < er then bare else if wrg then false else (lots.all lotB && uses.all useB)) from by rw [hR'.out, if_neg (by omega)])
    clear hR'
    by_cases k3 : 0 < er
    · go_wp2_with fail
      go_ret
      exact ⟨ret_bool (by rw [hR2.out, if_pos k3]), T0.out⟩
    have hR3 := Lib.hid (show rightT ⟨er, id, dy, cd, st, lots, uses⟩ = (if wrg then false else (lots.all lotB && uses.all useB)) from by rw [hR2.out, if_neg k3])
    clear hR2
    go_upto_region 6 with fail
    go_cut [50] from 51 to 91 (fun u50 wd => u50 = .bool wrg ∧ Blk wd b1 42 #[.int .i64 er, .int .i64 id, .int .i64 dy, .string str, .int .u8 st, .slice LA Ln Lc, .slice UA Un Uc] ∧ Turned (fun _ => False) w wd)
    case first =>
      by_cases h1 : id < 0
      · go_wp2_with fail
        go_meet
        exact ⟨congrArg Value.bool (by rw [hw.out]; simp [h1]), B0.out, T0.out⟩
      by_cases h2 : dy < -1
      · go_wp2_with fail
        go_meet
        exact ⟨congrArg Value.bool (by rw [hw.out]; simp [h2]), B0.out, T0.out⟩
      by_cases h3 : 4000 < dy
      · go_wp2_with fail
        go_meet
        exact ⟨congrArg Value.bool (by rw [hw.out]; simp [h3]), B0.out, T0.out⟩
      by_cases h4 : cd = []
      · have e3 : str.toList = [] := by rw [hsl.out, h4]
        have e4 : str.toList.isEmpty = true := by rw [e3]; rfl
        have h4' := Lib.hid h4
        clear h4
        by_cases h5 : 3 < st
        · go_wp2_with fail
          go_meet
          exact ⟨congrArg Value.bool (by rw [hw.out]; simp [h5]), B0.out, T0.out⟩
        · by_cases h6 : 300 < Ln
          · have h6i : (300 : Int) < (Ln : Int) := by omega
            go_wp2_with fail
            go_meet
            exact ⟨congrArg Value.bool (by rw [hw.out]; simp [h6]), B0.out, T0.out⟩
          · have h6i : ¬ (300 : Int) < (Ln : Int) := by omega
            by_cases h7 : 2000 < Un
            · have h7i : (2000 : Int) < (Un : Int) := by omega
              go_wp2_with fail
              go_meet
              exact ⟨congrArg Value.bool (by rw [hw.out]; simp [h7]), B0.out, T0.out⟩
            · have h7i : ¬ (2000 : Int) < (Un : Int) := by omega
              go_wp2_with fail
              go_meet
              exact ⟨congrArg Value.bool (by rw [hw.out]; simp [h1, h2, h3, h5, h6, h7, h4'.out]), B0.out, T0.out⟩
      · have e3 : str.toList ≠ [] := by rw [hsl.out]; exact h4
        have e4 : str.toList.isEmpty = false := by rw [hsl.out]; cases cd with | nil => exact absurd rfl h4 | cons a l => rfl
        have h4' := Lib.hid h4
        clear h4
        go_wp2_with fail
        refine (hcode.out _).mono ?_
        rintro e w1 ⟨rfl, t1⟩
        have T1 := Lib.hid (T0.out.and_ t1)
        have B1 := Lib.hid (B0.out.turned t1 (fun e => e))
        clear x0 x1 x2 x3 x4 x5 x6 t1 T0 B0 hcode
        obtain ⟨x0, x1, x2, x3, x4, x5, x6⟩ := B1.out.cells7
        cases hc : codeL cd with
        | false =>
          have hc' := Lib.hid hc
          clear hc
          go_wp2_with fail
          go_meet
          exact ⟨congrArg Value.bool (by rw [hw.out]; simp [h4'.out, hc'.out]), B1.out, T1.out⟩
        | true =>
          have hc' := Lib.hid hc
          clear hc
          by_cases h5 : 3 < st
          · go_wp2_with fail
            go_meet
            exact ⟨congrArg Value.bool (by rw [hw.out]; simp [h5]), B1.out, T1.out⟩
          · by_cases h6 : 300 < Ln
            · have h6i : (300 : Int) < (Ln : Int) := by omega
              go_wp2_with fail
              go_meet
              exact ⟨congrArg Value.bool (by rw [hw.out]; simp [h6]), B1.out, T1.out⟩
            · have h6i : ¬ (300 : Int) < (Ln : Int) := by omega
              by_cases h7 : 2000 < Un
              · have h7i : (2000 : Int) < (Un : Int) := by omega
                go_wp2_with fail
                go_meet
                exact ⟨congrArg Value.bool (by rw [hw.out]; simp [h7]), B1.out, T1.out⟩
              · have h7i : ¬ (2000 : Int) < (Un : Int) := by omega
                go_wp2_with fail
                go_meet
                exact ⟨congrArg Value.bool (by rw [hw.out, Bool.eq_iff_iff]; simp only [hc'.out, Bool.not_true, Bool.and_false, Bool.or_eq_true, decide_eq_true_eq, Bool.false_eq_true, false_or]; omega), B1.out, T1.out⟩
    case rest =>
      obtain ⟨rfl, hB1, hT1⟩ := hcut
      have B1 := Lib.hid hB1
      have T1 := Lib.hid hT1
      clear hB1 hT1 x0 x1 x2 x3 x4 x5 x6 B0 T0 hw hcode
      obtain ⟨x0, x1, x2, x3, x4, x5, x6⟩ := B1.out.cells7
      cases wrg with
      | true =>
        go_wp2_with fail
        go_ret
        exact ⟨ret_bool (by rw [hR3.out]; rfl), T1.out⟩
      | false =>
        have hR4 := Lib.hid (show rightT ⟨er, id, dy, cd, st, lots, uses⟩ = (lots.all lotB && uses.all useB) from hR3.out)
        clear hR3
        go_wp2_with fail
        clear x0 x1 x2 x3 x4 x5 x6
        go_loopw [95] (fun i wr => TrRel Ln w b1 #[.int .i64 er, .int .i64 id, .int .i64 dy, .string str, .int .u8 st, .slice LA Ln Lc, .slice UA Un Uc] (fun j => (lots.take j).all lotB = true) i wr) (fun i _ => Ln - (intOf i).toNat)
        case atStart => exact ⟨0, Nat.zero_le _, rfl, rfl, B1.out, T1.out⟩
        case round =>
          obtain ⟨j, hj, rfl, hp, hBr, hTr⟩ := hrel
          have hp' := Lib.hid hp
          have BR := Lib.hid hBr
          have TR := Lib.hid hTr
          clear hp hBr hTr
          by_cases hlt : j < Ln
          · have hji : (j : Int) < (Ln : Int) := by omega
            obtain ⟨bl, off, hA, hc⟩ := SlL.cells (SlE.fresh hL.out TR.out : SlL wr ⟨LA, Ln, Lc⟩ lots) (show 0 < Ln by omega)
            simp only at hA
            subst hA
            obtain ⟨q0, q1, q2, q3, q4, q5⟩ := hc j hlt
            have hjl := Lib.hid (show j < lots.length by rw [hl1'.out]; exact hlt)
            have hm := Lib.hid (all_take lotB lots LotV.zero j hjl.out)
            have hn := Lib.hid (fun h => all_no lotB lots LotV.zero j hjl.out h)
            have hi := (hLk'.out (lots.getD j LotV.zero) (by rw [List.getD_eq_getElem?_getD, List.getElem?_eq_getElem hjl.out]; exact List.getElem_mem hjl.out)).item
            clear hc
            generalize lots.getD j LotV.zero = L at *
            obtain ⟨l0, l1, l2, l3, l4, l5⟩ := L
            simp only at q0 q1 q2 q3 q4 q5 hi
            go_wp2_with fail
            refine (lot_right_any l0 l1 l2 l3 l4 l5 _ hi).mono ?_
            rintro e w5 ⟨rfl, t5⟩
            have t5' := Lib.hid (TR.out.and_ (((Turned.refl (fun _ => False) wr).alloc _).and_ t5))
            have BR' := Lib.hid ((BR.out.alloc _).turned t5 (fun e => e))
            clear q0 q1 q2 q3 q4 q5 t5 BR TR
            cases hb : lotB ⟨l0, l1, l2, l3, l4, l5⟩ with
            | false =>
              have hn' := Lib.hid (hn.out hb)
              clear hb
              go_wp2_with fail
              go_ret
              exact ⟨ret_bool (by rw [hR4.out, hn'.out]; rfl), t5'.out⟩
            | true =>
              have hb' := Lib.hid hb
              clear hb
              go_wp2_with fail
              go_roundw
              case rel => exact ⟨j + 1, hlt, by go_num, (show (lots.take (j + 1)).all lotB = true from by rw [hm.out, hp'.out, hb'.out]; rfl), BR'.out, t5'.out⟩
              case measure => simp [intOf] <;> omega
          · have hge : (Ln : Int) ≤ (j : Int) := by omega
            have hp2 := Lib.hid (show lots.all lotB = true from by have := hp'.out; rw [List.take_of_length_le (by rw [hl1'.out]; omega)] at this; exact this)
            clear hp'
            obtain ⟨x0, x1, x2, x3, x4, x5, x6⟩ := BR.out.cells7
            go_wp2_with fail
            clear x0 x1 x2 x3 x4 x5 x6
            have hst2 := Lib.hid (show TrRel Un w b1 #[.int .i64 er, .int .i64 id, .int .i64 dy, .string str, .int .u8 st, .slice LA Ln Lc, .slice UA Un Uc] (fun j => (uses.take j).all useB = true) (.int .i64 0) wr from ⟨0, Nat.zero_le _, rfl, rfl, BR.out, TR.out⟩)
            clear BR TR
            go_loopw [106] (fun i wr => TrRel Un w b1 #[.int .i64 er, .int .i64 id, .int .i64 dy, .string str, .int .u8 st, .slice LA Ln Lc, .slice UA Un Uc] (fun j => (uses.take j).all useB = true) i wr) (fun i _ => Un - (intOf i).toNat)
            case atStart => exact hst2.out
            case round =>
              obtain ⟨j2, hj2, rfl, hp, hBr, hTr⟩ := hrel
              have hp' := Lib.hid hp
              have BR := Lib.hid hBr
              have TR := Lib.hid hTr
              clear hp hBr hTr hst2
              by_cases hlt2 : j2 < Un
              · have hji2 : (j2 : Int) < (Un : Int) := by omega
                obtain ⟨bl, off, hA, hc⟩ := SlU.cells (SlE.fresh hU.out TR.out) (show 0 < Un by omega)
                simp only at hA
                subst hA
                obtain ⟨q0, q1, q2⟩ := hc j2 hlt2
                have hjl := Lib.hid (show j2 < uses.length by rw [hl2'.out]; exact hlt2)
                have hm := Lib.hid (all_take useB uses UseV.zero j2 hjl.out)
                have hn := Lib.hid (fun h => all_no useB uses UseV.zero j2 hjl.out h)
                clear hc
                generalize uses.getD j2 UseV.zero = L at *
                obtain ⟨l0, l1, l2⟩ := L
                simp only at q0 q1 q2
                have t5' := Lib.hid (TR.out.alloc (.cells #[.int .i64 l0, .int .i64 l1, .int .i64 l2] 64))
                have BR' := Lib.hid (BR.out.alloc (.cells #[.int .i64 l0, .int .i64 l1, .int .i64 l2] 64))
                clear BR TR
                by_cases g1 : l0 < 0
                · have hn' := Lib.hid (hn.out (by unfold useB; simp; omega))
                  go_wp2_with fail
                  go_ret
                  exact ⟨ret_bool (by rw [hR4.out, hn'.out, Bool.and_false]), t5'.out⟩
                by_cases g2 : l1 < 1
                · have hn' := Lib.hid (hn.out (by unfold useB; simp; omega))
                  go_wp2_with fail
                  go_ret
                  exact ⟨ret_bool (by rw [hR4.out, hn'.out, Bool.and_false]), t5'.out⟩
                by_cases g3 : l2 < 1
                · have hn' := Lib.hid (hn.out (by unfold useB; simp; omega))
                  go_wp2_with fail
                  go_ret
                  exact ⟨ret_bool (by rw [hR4.out, hn'.out, Bool.and_false]), t5'.out⟩
                have hb' := Lib.hid (show useB ⟨l0, l1, l2⟩ = true from by unfold useB; simp; omega)
                go_wp2_with fail
                go_roundw
                case rel => exact ⟨j2 + 1, hlt2, by go_num, (show (uses.take (j2 + 1)).all useB = true from by rw [hm.out, hp'.out, hb'.out]; rfl), BR'.out, t5'.out⟩
                case measure => simp [intOf] <;> omega
              · have hge2 : (Un : Int) ≤ (j2 : Int) := by omega
                have hp3 := Lib.hid (show uses.all useB = true from by have := hp'.out; rw [List.take_of_length_le (by rw [hl2'.out]; omega)] at this; exact this)
                go_wp2_with fail
                go_ret
                exact ⟨ret_bool (by rw [hR4.out, hp2.out, hp3.out]; rfl), TR.out⟩
end Go.Proofs.YtglojnmcbochaaaGreatDoor

namespace Go.Proofs.YtglojnmcbochaaaGreatDoor
open Go.RowKit Go.Maps

section
variable {P : Program} {ops : Array Oper} {Q : Exit → Act → World → Prop} {S : World → Prop}
end

/-! Takes and forced runs in any turn: 'true': taken first among what is ready (it yields one value in every world that meets S); 'false': it alone is ready. -/
section
variable {P : Program} {ops : Array Oper} {Q : Exit → Act → World → Prop} {md : Region.Mode} {S : World → Prop}
def segB (md : Region.Mode) (ops : Array Oper) : List (Bool × Nat) → Array Bool → Bool
  | [], listed => (Region.ready md ops listed).isEmpty
  | (true, i) :: r, listed => (Region.ready md ops listed).contains i && Region.free md ops listed i && segB md ops r (listed.setIfInBounds i true)
  | (false, i) :: r, listed => decide (Region.ready md ops listed = [i]) && segB md ops r (listed.setIfInBounds i true)
def pickSegs (l : List Oper) (is : List (Bool × Nat)) : List (Bool × Oper) := is.filterMap fun p => (l[p.2]?).map fun o => (p.1, o)
def wpSegs (P : Program) (ops : Array Oper) (Q : Exit → Act → World → Prop) (S : World → Prop) : List (Bool × Oper) → Act → World → Prop
  | [], a, w => Q .normal a w
  | (true, o) :: rest, a, w => ∃ v, YieldsIf P ops S o v a ∧ S w ∧ wpSegs P ops Q S rest (a.put o.dst v) w
  | (false, o) :: rest, a, w => if Region.wanted o (yielded ops a.tmps) then o.wp P a w (fun a' w' => S w' ∧ wpSegs P ops Q S rest a' w') Q else (S w ∧ wpSegs P ops Q S rest (a.put o.dst undef) w)
theorem wpSegs_nil {a : Act} {w : World} (h : Q .normal a w) : wpSegs P ops Q S [] a w := h
theorem wpSegs_skip {a : Act} {w : World} {o : Oper} {rest : List (Bool × Oper)} (hS : S w) (hw : Region.wanted o (yielded ops a.tmps) = false)
    (h : wpSegs P ops Q S rest (a.put o.dst undef) w) : wpSegs P ops Q S ((true, o) :: rest) a w := ⟨undef, .inr ⟨hw, rfl⟩, hS, h⟩
theorem wpSegs_take {a : Act} {w : World} {o : Oper} {rest : List (Bool × Oper)} {v : Value} (hS : S w) (hw : Region.wanted o (yielded ops a.tmps) = true) (hy : ∀ w, S w → (execOp a.eval o).run P w = .ok (.value v) w)
    (h : wpSegs P ops Q S rest (a.put o.dst v) w) : wpSegs P ops Q S ((true, o) :: rest) a w := ⟨v, .inl ⟨hw, hy⟩, hS, h⟩
theorem wpSegs_run {a : Act} {w : World} {o : Oper} {rest : List (Bool × Oper)} (hw : Region.wanted o (yielded ops a.tmps) = true)
    (h : ∀ K : Act → World → Prop, Shut (∀ a w, S w → wpSegs P ops Q S rest a w → K a w) → o.wp P a w K Q) : wpSegs P ops Q S ((false, o) :: rest) a w := by
  unfold wpSegs
  rw [if_pos hw]
  exact h _ (fun _ _ h1 h2 => ⟨h1, h2⟩)
theorem wpSegs_runSkip {a : Act} {w : World} {o : Oper} {rest : List (Bool × Oper)} (hS : S w) (hw : Region.wanted o (yielded ops a.tmps) = false)
    (h : wpSegs P ops Q S rest (a.put o.dst undef) w) : wpSegs P ops Q S ((false, o) :: rest) a w := by
  unfold wpSegs
  rw [if_neg (by rw [hw]; exact Bool.false_ne_true)]
  exact ⟨hS, h⟩
theorem wpAnyH_segs (hs : Region.noSelect ops = true) (hQ : ∀ c a d v w, Q (.panic c) (Act.put a (some d) v) w → Q (.panic c) a w) :
    ∀ (r : List (Bool × Nat)) (l : List (Bool × Oper)) (listed : Array Bool) (a : Act) (w : World), l = pickSegs ops.toList r → (∀ p ∈ r, p.2 < ops.size) → segB md ops r listed = true → wpSegs P ops Q S l a w → wpAnyH P md ops Q S r.length listed a w
  | [], l, listed, a, w, hl, _, hB, h => by
    subst hl
    exact ⟨by simpa [segB] using hB, h⟩
  | (true, i) :: r, l, listed, a, w, hl, hi, hB, h => by
    have hk : i < ops.size := hi (true, i) (by simp)
    have hok : ops[i]? = some ops[i] := Array.getElem?_eq_getElem hk
    have hl' : l = (true, ops[i]) :: pickSegs ops.toList r := by
      rw [hl]
      simp only [pickSegs]
      rw [List.filterMap_cons]
      have : ops.toList[i]? = some ops[i] := by simp
      rw [this]
      rfl
    rw [hl'] at h
    obtain ⟨v, hy, hS, h⟩ := h
    have hB' : ((Region.ready md ops listed).contains i = true ∧ Region.free md ops listed i = true) ∧ segB md ops r (listed.setIfInBounds i true) = true := by
      simpa only [segB, Bool.and_eq_true] using hB
    exact wpAnyH_take hok hs hB'.1.2 hB'.1.1 (fun c a w hp => by
      cases hd : ops[i].dst with
      | none => rw [hd] at hp; exact hp
      | some d => rw [hd] at hp; exact hQ c a d _ w hp) hy hS (wpAnyH_segs hs hQ r _ _ _ w rfl (fun p hp => hi p (by simp [hp])) hB'.2 h)
  | (false, k) :: r, l, listed, a, w, hl, hi, hB, h => by
    simp only [segB, Bool.and_eq_true, decide_eq_true_eq] at hB
    have hk : k < ops.size := hi (false, k) (by simp)
    have hok : ops[k]? = some ops[k] := Array.getElem?_eq_getElem hk
    have hl' : l = (false, ops[k]) :: pickSegs ops.toList r := by
      rw [hl]
      simp only [pickSegs]
      rw [List.filterMap_cons]
      have : ops.toList[k]? = some ops[k] := by simp
      rw [this]
      rfl
    rw [hl'] at h
    refine wpAnyH_all hB.1 (by simp) (fun i hi' => ?_)
    have : i = k := by simpa using hi'
    subst this
    unfold wpOp
    rw [hok]
    show if Region.wanted ops[i] (yielded ops a.tmps) = true then _ else _
    unfold wpSegs at h
    split
    · rename_i hw
      rw [if_pos hw] at h
      exact .inl (Oper.wp_mono (fun a' w' h' => ⟨h'.1, wpAnyH_segs hs hQ r _ _ a' w' rfl (fun p hp => hi p (by simp [hp])) hB.2 h'.2⟩) h)
    · rename_i hw
      rw [if_neg hw] at h
      exact ⟨h.1, wpAnyH_segs hs hQ r _ _ _ w rfl (fun p hp => hi p (by simp [hp])) hB.2 h.2⟩
/-- The whole check, for the kernel. -/
def segsB (l : List Oper) (r : List (Bool × Nat)) : Bool :=
  Region.noSelect l.toArray && r.all (fun p => decide (p.2 < l.toArray.size)) && decide (r.length = l.toArray.size) && segB .any l.toArray r (Array.replicate l.toArray.size false)
/-- Takes: 'T is': forced runs: 'F is'. -/
def segT (is : List Nat) : List (Bool × Nat) := is.map fun i => (true, i)
def segF (is : List Nat) : List (Bool × Nat) := is.map fun i => (false, i)
theorem wp_region_segs {id : Nat} {a : Act} {w : World} {l : List Oper} (S : World → Prop) (r : List (Bool × Nat)) (hm : P.follows .mixedOrders = true) (hB : segsB l r = true)
    (hQ : ∀ c a d v w, Q (.panic c) (Act.put a (some d) v) w → Q (.panic c) a w)
    (hh : wpSegs P l.toArray Q S (pickSegs l r) a w.drew) : (Code.region id l.toArray true).wp P Q a w := by
  simp only [segsB, Bool.and_eq_true, decide_eq_true_eq, List.all_eq_true] at hB
  obtain ⟨⟨⟨h1, h2⟩, h3⟩, h4⟩ := hB
  refine wp_region_held (S := S) hm ?_
  rw [← h3]
  rw [show Array.replicate r.length false = Array.replicate l.toArray.size false by rw [h3]]
  exact wpAnyH_segs h1 hQ r _ _ a w.drew rfl h2 h4 hh
end
end Go.Proofs.YtglojnmcbochaaaGreatDoor

