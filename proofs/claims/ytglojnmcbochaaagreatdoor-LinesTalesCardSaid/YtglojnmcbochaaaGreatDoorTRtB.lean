/-
  storemanref14.Right: whether an answer is right, by the document. Condition: texts are no longer than texts may be.
-/
import Derived.Test.YtglojnmcbochaaaGreatDoorTRtA
namespace Go.Proofs.YtglojnmcbochaaaGreatDoor
open Go.RowKit Go.Maps
set_option linter.unusedVariables false
set_option linter.unusedSimpArgs false

set_option maxRecDepth 100000 in
set_option maxHeartbeats 4000000 in
theorem rtell_right_any (t : TellV) (S : TellS) (w : World) (h : TellIs w t S) (hok : t.Ok) : Calls Tryz.prog 82 #[.agg (tellC t S)] w (BoolNew (rightT t) w) := by
  have hR := rightT_eq t (by have := hok.id; unfold I64 at this; omega)
  have hcode := Lib.hid (fun W => rcode_right_any t.code W hok.code)
  have hl1 := SlL.len h.lots
  have hl2 := SlU.len h.uses
  have hb1 := Nat.le_trans h.lots.le h.lots.max
  have hb2 := Nat.le_trans h.uses.le h.uses.max
  unfold maxLen at hb1 hb2
  have hLk := hok.lots
  have hst := hok.state
  have hid := hok.id
  have hdy := hok.day
  unfold isByte at hst
  unfold I64 at hid hdy
  obtain ⟨er, id, dy, cd, st, lots, uses⟩ := t
  obtain ⟨⟨LA, Ln, Lc⟩, ⟨UA, Un, Uc⟩⟩ := S
  simp only at hR hcode hl1 hl2 hb1 hb2 hLk hst hid hdy
  have hL := Lib.hid h.lots
  have hU := Lib.hid h.uses
  have hLk' := Lib.hid hLk
  have hR' := Lib.hid hR
  have hl1' := Lib.hid hl1
  have hl2' := Lib.hid hl2
  clear h hok hl1 hl2 hLk hR
  unfold tellC strV
  simp only
  have hsl0 : (⟨cd.toArray⟩ : ByteArray).toList = cd := by rw [ByteArray.toList_eq]
  generalize (⟨cd.toArray⟩ : ByteArray) = str at *
  have hsl := Lib.hid hsl0
  clear hsl0
  go_enter Tryz.func82, Tryz.ntmps82
  go_upto_region 1 with fail
  have T0 := Lib.hid ((Turned.refl (fun _ => False) w).alloc (.cells #[.int .i64 er, .int .i64 id, .int .i64 dy, .string str, .int .u8 st, .slice LA Ln Lc, .slice UA Un Uc] 42))
  have B0 := Lib.hid (Blk.new w 42 #[.int .i64 er, .int .i64 id, .int .i64 dy, .string str, .int .u8 st, .slice LA Ln Lc, .slice UA Un Uc])
  obtain ⟨W1, hW1⟩ : ∃ W1, W1 = w.alloc (.cells #[.int .i64 er, .int .i64 id, .int .i64 dy, .string str, .int .u8 st, .slice LA Ln Lc, .slice UA Un Uc] 42) := ⟨_, rfl⟩
  rw [← hW1] at T0 B0 ⊢
  clear hW1
  obtain ⟨b1, hb⟩ : ∃ b1, w.heap.size = b1 := ⟨_, rfl⟩
  rw [hb] at B0 ⊢
  clear hb
  obtain ⟨x0, x1, x2, x3, x4, x5, x6⟩ := B0.out.cells7
  by_cases k1 : er < 0
  · go_wp2_with fail
    go_ret
    exact ⟨ret_bool (by rw [hR'.out, if_pos (.inl k1)]), T0.out⟩
  by_cases k2 : 999 < er
  · go_wp2_with fail
    go_ret
    exact ⟨ret_bool (by rw [hR'.out, if_pos (.inr k2)]), T0.out⟩
  have hR2 := Lib.hid (show rightT ⟨er, id, dy, cd, st, lots, uses⟩ = (if 0 < er then bareT ⟨er, id, dy, cd, st, lots, uses⟩ else if wrongT ⟨er, id, dy, cd, st, lots, uses⟩ then false else (lots.all lotB && uses.all useB)) from by rw [hR'.out, if_neg (by omega)])
  clear hR'
  by_cases k3 : er = 0
  case neg =>
    have k3b : (er != 0) = true := by simp [k3]
    have hR3 := Lib.hid (show rightT ⟨er, id, dy, cd, st, lots, uses⟩ = bareT ⟨er, id, dy, cd, st, lots, uses⟩ from by rw [hR2.out, if_pos (by omega)])
    clear hR2
    by_cases h1 : id = 0
    · have e1 : (id == 0) = true := by rw [h1]; rfl
      have h1' := Lib.hid h1
      clear h1
      by_cases h2 : dy = 0
      · have e2 : (dy == 0) = true := by rw [h2]; rfl
        have h2' := Lib.hid h2
        clear h2
        by_cases h3 : cd = []
        · have e3 : str.toList = [] := by rw [hsl.out, h3]
          have e4 : str.toList.isEmpty = true := by rw [e3]; rfl
          have h3' := Lib.hid h3
          clear h3
          by_cases h4 : st = 0
          · have e5 : (st == 0) = true := by rw [h4]; rfl
            have h4' := Lib.hid h4
            clear h4
            go_wp2_with fail
            go_ret
            refine ⟨ret_bool ?_, T0.out⟩
            rw [hR3.out]
            unfold bareT
            rw [h1'.out, h2'.out, h3'.out, h4'.out]
            have hz := wrap_zero Ln Un (by omega) (by omega)
            have g1 : (lots = []) ↔ Ln = 0 := by rw [← hl1'.out]; exact List.length_eq_zero_iff.symm
            have g2 : (uses = []) ↔ Un = 0 := by rw [← hl2'.out]; exact List.length_eq_zero_iff.symm
            rw [Bool.eq_iff_iff]
            simp only [beq_iff_eq, Bool.and_eq_true, decide_eq_true_eq, g1, g2, hz, true_and]
            omega
          · have e5 : (st == 0) = false := beq_eq_false_iff_ne.2 h4
            go_wp2_with fail
            go_ret
            exact ⟨ret_bool (by rw [hR3.out]; unfold bareT; simp [h4]), T0.out⟩
        · have e3 : str.toList ≠ [] := by rw [hsl.out]; exact h3
          have e4 : str.toList.isEmpty = false := by rw [hsl.out]; cases cd with | nil => exact absurd rfl h3 | cons a l => rfl
          have h3' := Lib.hid h3
          clear h3
          go_wp2_with fail
          go_ret
          exact ⟨ret_bool (by rw [hR3.out]; unfold bareT; simp [h3'.out]), T0.out⟩
      · have e2 : (dy == 0) = false := beq_eq_false_iff_ne.2 h2
        go_wp2_with fail
        go_ret
        exact ⟨ret_bool (by rw [hR3.out]; unfold bareT; simp [h2]), T0.out⟩
    · have e1 : (id == 0) = false := beq_eq_false_iff_ne.2 h1
      go_wp2_with fail
      go_ret
      exact ⟨ret_bool (by rw [hR3.out]; unfold bareT; simp [h1]), T0.out⟩
  case pos =>
    have hw := Lib.hid (show wrongT ⟨er, id, dy, cd, st, lots, uses⟩ = (decide (id < 0) || (decide (dy < -1) || (decide (4000 < dy) || ((!decide (cd = []) && !codeL cd) || (decide (3 < st) || (decide (300 < Ln) || decide (2000 < Un))))))) from by unfold wrongT; rw [hl1'.out, hl2'.out])
    generalize wrongT ⟨er, id, dy, cd, st, lots, uses⟩ = wrg at *
    have hR3 := Lib.hid (show rightT ⟨er, id, dy, cd, st, lots, uses⟩ = (if wrg then false else (lots.all lotB && uses.all useB)) from by rw [hR2.out, if_neg (by omega)])
    clear hR2
    have k3b : (er != 0) = false := by simp [k3]
    have k3h := Lib.hid k3
    clear k3
    go_upto_region 5 with fail
    go_cut [84] from 44 to 84 (fun u84 wd => u84 = .bool wrg ∧ Blk wd b1 42 #[.int .i64 er, .int .i64 id, .int .i64 dy, .string str, .int .u8 st, .slice LA Ln Lc, .slice UA Un Uc] ∧ Turned (fun _ => False) w wd)
    case first =>
      by_cases h1 : id < 0
      · go_wp2_with fail
        go_meet
        exact ⟨congrArg Value.bool (by rw [hw.out]; simp [h1]), B0.out, T0.out⟩
      by_cases h2 : dy < -1
      · go_wp2_with fail
        go_meet
        exact ⟨congrArg Value.bool (by rw [hw.out]; simp [h2]), B0.out, T0.out⟩
      by_cases h3 : 4000 < dy
      · go_wp2_with fail
        go_meet
        exact ⟨congrArg Value.bool (by rw [hw.out]; simp [h3]), B0.out, T0.out⟩
      by_cases h4 : cd = []
      · have e3 : str.toList = [] := by rw [hsl.out, h4]
        have e4 : str.toList.isEmpty = true := by rw [e3]; rfl
        have h4' := Lib.hid h4
        clear h4
        by_cases h5 : 3 < st
        · go_wp2_with fail
          go_meet
          exact ⟨congrArg Value.bool (by rw [hw.out]; simp [h5]), B0.out, T0.out⟩
        · by_cases h6 : 300 < Ln
          · have h6i : (300 : Int) < (Ln : Int) := by omega
            go_wp2_with fail
            go_meet
            exact ⟨congrArg Value.bool (by rw [hw.out]; simp [h6]), B0.out, T0.out⟩
          · have h6i : ¬ (300 : Int) < (Ln : Int) := by omega
            by_cases h7 : 2000 < Un
            · have h7i : (2000 : Int) < (Un : Int) := by omega
              go_wp2_with fail
              go_meet
              exact ⟨congrArg Value.bool (by rw [hw.out]; simp [h7]), B0.out, T0.out⟩
            · have h7i : ¬ (2000 : Int) < (Un : Int) := by omega
              go_wp2_with fail
              go_meet
              exact ⟨congrArg Value.bool (by rw [hw.out]; simp [h1, h2, h3, h5, h6, h7, h4'.out]), B0.out, T0.out⟩
      · have e3 : str.toList ≠ [] := by rw [hsl.out]; exact h4
        have e4 : str.toList.isEmpty = false := by rw [hsl.out]; cases cd with | nil => exact absurd rfl h4 | cons a l => rfl
        have h4' := Lib.hid h4
        clear h4
        go_wp2_with fail
        refine (hcode.out _).mono ?_
        rintro e w1 ⟨rfl, rfl⟩
        have T1 := T0
        have B1 := B0
        clear hcode
        cases hc : codeL cd with
        | false =>
          have hc' := Lib.hid hc
          clear hc
          go_wp2_with fail
          go_meet
          exact ⟨congrArg Value.bool (by rw [hw.out]; simp [h4'.out, hc'.out]), B1.out, T1.out⟩
        | true =>
          have hc' := Lib.hid hc
          clear hc
          by_cases h5 : 3 < st
          · go_wp2_with fail
            go_meet
            exact ⟨congrArg Value.bool (by rw [hw.out]; simp [h5]), B1.out, T1.out⟩
          · by_cases h6 : 300 < Ln
            · have h6i : (300 : Int) < (Ln : Int) := by omega
              go_wp2_with fail
              go_meet
              exact ⟨congrArg Value.bool (by rw [hw.out]; simp [h6]), B1.out, T1.out⟩
            · have h6i : ¬ (300 : Int) < (Ln : Int) := by omega
              by_cases h7 : 2000 < Un
              · have h7i : (2000 : Int) < (Un : Int) := by omega
                go_wp2_with fail
                go_meet
                exact ⟨congrArg Value.bool (by rw [hw.out]; simp [h7]), B1.out, T1.out⟩
              · have h7i : ¬ (2000 : Int) < (Un : Int) := by omega
                go_wp2_with fail
                go_meet
                exact ⟨congrArg Value.bool (by rw [hw.out, Bool.eq_iff_iff]; simp only [hc'.out, Bool.not_true, Bool.and_false, Bool.or_eq_true, decide_eq_true_eq, Bool.false_eq_true, false_or]; omega), B1.out, T1.out⟩
    case rest =>
      obtain ⟨rfl, hB1, hT1⟩ := hcut
      have B1 := Lib.hid hB1
      have T1 := Lib.hid hT1
      clear hB1 hT1 x0 x1 x2 x3 x4 x5 x6 B0 T0 hw hcode
      obtain ⟨x0, x1, x2, x3, x4, x5, x6⟩ := B1.out.cells7
      cases wrg with
      | true =>
        go_wp2_with fail
        go_ret
        exact ⟨ret_bool (by rw [hR3.out]; rfl), T1.out⟩
      | false =>
        have hR4 := Lib.hid (show rightT ⟨er, id, dy, cd, st, lots, uses⟩ = (lots.all lotB && uses.all useB) from hR3.out)
        clear hR3
        go_wp2_with fail
        clear x0 x1 x2 x3 x4 x5 x6
        go_loopw [3] (fun i wr => TrRel Ln w b1 #[.int .i64 er, .int .i64 id, .int .i64 dy, .string str, .int .u8 st, .slice LA Ln Lc, .slice UA Un Uc] (fun j => (lots.take j).all lotB = true) i wr) (fun i _ => Ln - (intOf i).toNat)
        case atStart => exact ⟨0, Nat.zero_le _, rfl, rfl, B1.out, T1.out⟩
        case round =>
          obtain ⟨j, hj, rfl, hp, hBr, hTr⟩ := hrel
          have hp' := Lib.hid hp
          have BR := Lib.hid hBr
          have TR := Lib.hid hTr
          clear hp hBr hTr
          by_cases hlt : j < Ln
          · have hji : (j : Int) < (Ln : Int) := by omega
            obtain ⟨bl, off, hA, hc⟩ := SlL.cells (SlE.fresh hL.out TR.out : SlL wr ⟨LA, Ln, Lc⟩ lots) (show 0 < Ln by omega)
            simp only at hA
            subst hA
            obtain ⟨q0, q1, q2, q3, q4, q5⟩ := hc j hlt
            have hjl := Lib.hid (show j < lots.length by rw [hl1'.out]; exact hlt)
            have hm := Lib.hid (all_take lotB lots LotV.zero j hjl.out)
            have hn := Lib.hid (fun h => all_no lotB lots LotV.zero j hjl.out h)
            have hi := (hLk'.out (lots.getD j LotV.zero) (by rw [List.getD_eq_getElem?_getD, List.getElem?_eq_getElem hjl.out]; exact List.getElem_mem hjl.out)).item
            clear hc
            generalize lots.getD j LotV.zero = L at *
            obtain ⟨l0, l1, l2, l3, l4, l5⟩ := L
            simp only at q0 q1 q2 q3 q4 q5 hi
            obtain ⟨x0, x1, x2, x3, x4, x5, x6⟩ := BR.out.cells7
            go_wp2_with fail
            refine (rlot_right_any l0 l1 l2 l3 l4 l5 _ hi).mono ?_
            rintro e w5 ⟨rfl, t5⟩
            have t5' := Lib.hid (TR.out.and_ t5)
            have BR' := Lib.hid (BR.out.turned t5 (fun e => e))
            clear q0 q1 q2 q3 q4 q5 t5 BR TR x0 x1 x2 x3 x4 x5 x6
            cases hb : lotB ⟨l0, l1, l2, l3, l4, l5⟩ with
            | false =>
              have hn' := Lib.hid (hn.out hb)
              clear hb
              go_wp2_with fail
              go_ret
              exact ⟨ret_bool (by rw [hR4.out, hn'.out]; rfl), t5'.out⟩
            | true =>
              have hb' := Lib.hid hb
              clear hb
              go_wp2_with fail
              go_roundw
              case rel => exact ⟨j + 1, hlt, by go_num, (show (lots.take (j + 1)).all lotB = true from by rw [hm.out, hp'.out, hb'.out]; rfl), BR'.out, t5'.out⟩
              case measure => simp [intOf] <;> omega
          · have hge : (Ln : Int) ≤ (j : Int) := by omega
            have hp2 := Lib.hid (show lots.all lotB = true from by have := hp'.out; rw [List.take_of_length_le (by rw [hl1'.out]; omega)] at this; exact this)
            clear hp'
            obtain ⟨x0, x1, x2, x3, x4, x5, x6⟩ := BR.out.cells7
            go_wp2_with fail
            clear x0 x1 x2 x3 x4 x5 x6
            have hst2 := Lib.hid (show TrRel Un w b1 #[.int .i64 er, .int .i64 id, .int .i64 dy, .string str, .int .u8 st, .slice LA Ln Lc, .slice UA Un Uc] (fun j => (uses.take j).all useB = true) (.int .i64 0) wr from ⟨0, Nat.zero_le _, rfl, rfl, BR.out, TR.out⟩)
            clear BR TR
            go_loopw [4] (fun i wr => TrRel Un w b1 #[.int .i64 er, .int .i64 id, .int .i64 dy, .string str, .int .u8 st, .slice LA Ln Lc, .slice UA Un Uc] (fun j => (uses.take j).all useB = true) i wr) (fun i _ => Un - (intOf i).toNat)
            case atStart => exact hst2.out
            case round =>
              obtain ⟨j2, hj2, rfl, hp, hBr, hTr⟩ := hrel
              have hp' := Lib.hid hp
              have BR := Lib.hid hBr
              have TR := Lib.hid hTr
              clear hp hBr hTr hst2
              by_cases hlt2 : j2 < Un
              · have hji2 : (j2 : Int) < (Un : Int) := by omega
                obtain ⟨bl, off, hA, hc⟩ := SlU.cells (SlE.fresh hU.out TR.out) (show 0 < Un by omega)
                simp only at hA
                subst hA
                obtain ⟨q0, q1, q2⟩ := hc j2 hlt2
                have hjl := Lib.hid (show j2 < uses.length by rw [hl2'.out]; exact hlt2)
                have hm := Lib.hid (all_take useB uses UseV.zero j2 hjl.out)
                have hn := Lib.hid (fun h => all_no useB uses UseV.zero j2 hjl.out h)
                clear hc
                generalize uses.getD j2 UseV.zero = L at *
                obtain ⟨l0, l1, l2⟩ := L
                simp only at q0 q1 q2
                have t5' := TR
                have BR' := BR
                obtain ⟨x0, x1, x2, x3, x4, x5, x6⟩ := BR.out.cells7
                by_cases g1 : l0 < 0
                · have hn' := Lib.hid (hn.out (by unfold useB; simp; omega))
                  go_wp2_with fail
                  go_ret
                  exact ⟨ret_bool (by rw [hR4.out, hn'.out, Bool.and_false]), t5'.out⟩
                by_cases g2 : l1 < 1
                · have hn' := Lib.hid (hn.out (by unfold useB; simp; omega))
                  go_wp2_with fail
                  go_ret
                  exact ⟨ret_bool (by rw [hR4.out, hn'.out, Bool.and_false]), t5'.out⟩
                by_cases g3 : l2 < 1
                · have hn' := Lib.hid (hn.out (by unfold useB; simp; omega))
                  go_wp2_with fail
                  go_ret
                  exact ⟨ret_bool (by rw [hR4.out, hn'.out, Bool.and_false]), t5'.out⟩
                have hb' := Lib.hid (show useB ⟨l0, l1, l2⟩ = true from by unfold useB; simp; omega)
                go_wp2_with fail
                go_roundw
                case rel => exact ⟨j2 + 1, hlt2, by go_num, (show (uses.take (j2 + 1)).all useB = true from by rw [hm.out, hp'.out, hb'.out]; rfl), BR'.out, t5'.out⟩
                case measure => simp [intOf] <;> omega
              · have hge2 : (Un : Int) ≤ (j2 : Int) := by omega
                have hp3 := Lib.hid (show uses.all useB = true from by have := hp'.out; rw [List.take_of_length_le (by rw [hl2'.out]; omega)] at this; exact this)
                obtain ⟨x0, x1, x2, x3, x4, x5, x6⟩ := BR.out.cells7
                go_wp2_with fail
                go_ret
                exact ⟨ret_bool (by rw [hR4.out, hp2.out, hp3.out]; rfl), TR.out⟩
end Go.Proofs.YtglojnmcbochaaaGreatDoor

