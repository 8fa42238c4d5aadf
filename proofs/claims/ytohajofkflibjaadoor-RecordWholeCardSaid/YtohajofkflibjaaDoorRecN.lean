/-
  storemanlaw19.RecordWhole: what is got of any bytes is right, and put as just those; none of their beginnings is a record's.
-/
import Derived.Test.YtohajofkflibjaaDoorRecM
namespace Go.Proofs.YtohajofkflibjaaDoor
open Go.RowKit Go.Maps
set_option linter.unusedVariables false
set_option linter.unusedSimpArgs false

def WhoRel (m : Nat) (A : Option Addr) (n c : Nat) (zs : List Int) (w : World) (i : Value) (wr : World) : Prop := ∃ j : Nat, j ≤ m ∧ i = .int .i64 j ∧ Turned (fun _ => False) w wr ∧ BytS wr A n c zs
set_option maxRecDepth 100000 in
set_option maxHeartbeats 4000000 in
theorem recordWhole_any (A : Option Addr) (n c : Nat) (zs : List Int) (w : World) (h : BytS w A n c zs) (hb : ∀ z ∈ zs, isByte z) (hnc : n ≤ c) (hc : c ≤ maxLen) (_hn47 : n ≤ 140737488355328) : Calls Tryd.prog 4 #[.slice A n c] w (OkNew w) := by
  have hl := h.len
  have h' := Lib.hid h
  have hc' := hc
  unfold maxLen at hc'
  clear h
  go_enter Tryd.func4, Tryd.ntmps4
  go_wp2_with fail
  refine (awake19_any _).mono ?_
  rintro e w1 ⟨rfl, t1⟩
  have T1 := Lib.hid t1
  have H1 := Lib.hid (h'.out.turned0 t1 (fun _ _ _ _ e => e))
  clear t1 h'
  by_cases hbig : (9000 : Int) < (n : Int)
  · go_wp2_with fail
    go_ret
    exact ⟨rfl, T1.out⟩
  · go_wp2_with fail
    refine (rget_any A n c zs w1 H1.out hb hnc hc).mono ?_
    rintro e w2 (⟨R, m, S, hR, rfl, hown, t2⟩ | ⟨hno, rfl, t2⟩)
    · obtain ⟨hri, hls, h3, hmz, hput, hnone⟩ := put_get hb hR
      rw [hl] at hmz
      have T2 := Lib.hid (T1.out.trans (W := fun _ => False) t2 (fun _ e => e) (fun _ e => e.elim))
      have H2 := Lib.hid (H1.out.turned0 t2 (fun _ _ _ _ e => e))
      have I2 := Lib.hid hown.is
      have BX := Lib.hid (Blk.new w2 29 (recC R S))
      have tX := Lib.hid ((Turned.refl (fun _ => False) w2).alloc (.cells (recC R S) 29))
      have hn2 := Lib.hid hnone
      have hp2 := Lib.hid hput
      clear t2 hown T1 H1 hnone hput hR
      obtain ⟨lsn, work, prev, next, kind, page, key, old, new, dirty, opn⟩ := R
      obtain ⟨⟨KA, Kn, Kc⟩, ⟨OA, On, Oc⟩, ⟨NA, Nn, Nc⟩, ⟨DA, Dn, Dc⟩, ⟨PA, Pn, Pc⟩⟩ := S
      simp only at hls
      subst hls
      unfold recC at BX tX ⊢
      simp only at BX tX ⊢
      go_wp2_with fail
      have T3 := Lib.hid (T2.out.trans (W := fun _ => False) tX.out (fun _ e => e) (fun _ e => e.elim))
      have H3 := Lib.hid (H2.out.turned0 tX.out (fun _ _ _ _ e => e))
      have I3 := Lib.hid (I2.out.fresh tX.out)
      have A3 := Lib.hid (RecAt.of_blk BX.out : RecAt (w2.alloc (.cells #[.int .i64 0, .int .i64 work, .int .i64 prev, .int .i64 next, .int .u8 kind, .int .i64 page, .slice KA Kn Kc, .slice OA On Oc, .slice NA Nn Nc, .slice DA Dn Dc, .slice PA Pn Pc] 29)) w2.heap.size ⟨0, work, prev, next, kind, page, key, old, new, dirty, opn⟩ ⟨⟨KA, Kn, Kc⟩, ⟨OA, On, Oc⟩, ⟨NA, Nn, Nc⟩, ⟨DA, Dn, Dc⟩, ⟨PA, Pn, Pc⟩⟩)
      clear T2 H2 I2 BX tX
      generalize w2.alloc (.cells #[.int .i64 0, .int .i64 work, .int .i64 prev, .int .i64 next, .int .u8 kind, .int .i64 page, .slice KA Kn Kc, .slice OA On Oc, .slice NA Nn Nc, .slice DA Dn Dc, .slice PA Pn Pc] 29) = w3 at *
      generalize w2.heap.size = bx at *
      have hp := rput_any ⟨0, work, prev, next, kind, page, key, old, new, dirty, opn⟩ ⟨⟨KA, Kn, Kc⟩, ⟨OA, On, Oc⟩, ⟨NA, Nn, Nc⟩, ⟨DA, Dn, Dc⟩, ⟨PA, Pn, Pc⟩⟩ w3 I3.out
      have hlen : (zs.take m).length = m := by rw [List.length_take, hl]; omega
      unfold RPut recC at hp
      rw [hri, hp2.out, hlen] at hp
      simp only [if_true] at hp
      refine hp.mono ?_
      clear hp
      rintro e w4 ⟨A4, c4, rfl, o4, g4, t4⟩
      have T4 := Lib.hid (T3.out.trans (W := fun _ => False) t4 (fun _ e => e) (fun _ e => e.elim))
      have H4 := Lib.hid (H3.out.turned0 t4 (fun _ _ _ _ e => e))
      have I4 := Lib.hid (I3.out.fresh t4)
      have A5 := Lib.hid (A3.out.fresh t4)
      have O4 := Lib.hid o4
      clear T3 H3 I3 A3 g4 o4 t4
      have h3' : (3 : Int) ≤ (m : Int) := by omega
      have hmz' : (m : Int) ≤ (n : Int) := by omega
      obtain ⟨hw0, hw1, hw2, hw3, hw4, hw5, hw6, hw7, hw8, hw9, hw10⟩ := A5.out
      simp only at hw0 hw1 hw2 hw3 hw4 hw5 hw6 hw7 hw8 hw9 hw10
      clear A5
      go_wp2_with fail
      have hr := right_any ⟨0, work, prev, next, kind, page, key, old, new, dirty, opn⟩ ⟨⟨KA, Kn, Kc⟩, ⟨OA, On, Oc⟩, ⟨NA, Nn, Nc⟩, ⟨DA, Dn, Dc⟩, ⟨PA, Pn, Pc⟩⟩ w4 I4.out
      unfold recC at hr
      rw [hri] at hr
      simp only at hr
      refine hr.mono ?_
      clear hr
      rintro e w5 ⟨rfl, t5⟩
      have T5 := Lib.hid (T4.out.trans (W := fun _ => False) t5 (fun _ e => e) (fun _ e => e.elim))
      have H5 := Lib.hid (H4.out.turned0 t5 (fun _ _ _ _ e => e))
      have O5 := Lib.hid (O4.out.turned t5 (fun _ _ e => e))
      clear T4 H4 O4 I4 t5 hw0 hw1 hw2 hw3 hw4 hw5 hw6 hw7 hw8 hw9 hw10
      have hmc : (m : Int) ≤ (c : Int) := by omega
      go_wp2_with fail
      refine (same_yes A4 A m m c4 c (zs.take m) (zs.take m) w5 O5.out.bytS'.toBytR (H5.out.toBytR.head (by omega)) rfl).mono ?_
      rintro e w6 ⟨rfl, nq, rfl⟩
      have T6 := Lib.hid (T5.out.drewN nq)
      have H6 := Lib.hid (H5.out.turned0 ((Turned.refl (fun _ => False) w5).drewN nq) (fun _ _ _ _ e => e))
      clear T5 H5 O5
      generalize w5.drewN nq = w6 at *
      go_wp2_with fail
      go_loopw [8] (fun i wr => WhoRel m A n c zs w i wr) (fun i _ => m - (intOf i).toNat)
      case atStart => exact ⟨((max 0 ((m : Int) - 40)) : Int).toNat, by omega, by congr 1; omega, T6.out, H6.out⟩
      case round =>
        obtain ⟨j, hj, rfl, t7, h7⟩ := hrel
        by_cases hlt : j < m
        · have hji : (j : Int) < (m : Int) := by omega
          have hjc : (j : Int) ≤ (c : Int) := by omega
          have T7 := Lib.hid t7
          have H7 := Lib.hid h7
          clear t7 h7
          go_wp2_with fail
          have hg := rget_any A j c (zs.take j) wr ⟨H7.out.toBytR.head (by omega), fun e => by have := H7.out.nil_ e; omega⟩ (fun z hz => hb z (List.mem_of_mem_take hz)) (by omega) hc
          unfold RGet at hg
          rw [hn2.out j hlt] at hg
          refine hg.mono ?_
          clear hg
          rintro e w8 (⟨_, _, _, hno, _⟩ | ⟨_, rfl, t8⟩)
          · cases hno
          · have T8 := Lib.hid (T7.out.trans (W := fun _ => False) t8 (fun _ e => e) (fun _ e => e.elim))
            have H8 := Lib.hid (H7.out.turned0 t8 (fun _ _ _ _ e => e))
            have tY := Lib.hid ((Turned.refl (fun _ => False) w8).alloc (.cells (recC Rec.zero RecS.nil) 29))
            unfold recC Rec.zero RecS.nil Sl.nil at tY ⊢
            simp only at tY ⊢
            clear t8 T7 H7
            go_wp2_with fail
            go_roundw
            case rel =>
              first
              | exact ⟨j + 1, by omega, by go_num, T8.out.trans (W := fun _ => False) tY.out (fun _ e => e) (fun _ e => e.elim), H8.out.turned0 tY.out (fun _ _ _ _ e => e)⟩
              | ((repeat apply Exists.intro); exact ⟨⟨j + 1, by omega, by go_num, T8.out.trans (W := fun _ => False) tY.out (fun _ e => e) (fun _ e => e.elim), H8.out.turned0 tY.out (fun _ _ _ _ e => e)⟩, rfl⟩)
            case measure => simp [intOf] <;> omega
        · have hge : (m : Int) ≤ (j : Int) := by omega
          have T7 := Lib.hid t7
          clear t7 h7
          go_wp2_with fail
          go_ret
          exact ⟨rfl, T7.out⟩
    · have T2 := Lib.hid (T1.out.trans (W := fun _ => False) t2 (fun _ e => e) (fun _ e => e.elim))
      clear t2 H1 T1
      unfold recC Rec.zero RecS.nil Sl.nil
      simp only
      go_wp2_with fail
      have hz := T2.out.alloc (.cells (recC Rec.zero RecS.nil) 29)
      have hsr := sameR_any Rec.zero RecS.nil RecS.nil (w2.alloc (.cells (recC Rec.zero RecS.nil) 29)) (nil_is _ Rec.zero rfl rfl rfl rfl rfl) (nil_is _ Rec.zero rfl rfl rfl rfl rfl)
      unfold recC Rec.zero RecS.nil Sl.nil at hsr hz
      simp only at hsr hz
      refine hsr.mono ?_
      rintro e w3 ⟨rfl, t3⟩
      have T3 := Lib.hid (hz.trans (W := fun _ => False) t3 (fun _ e => e) (fun _ e => e.elim))
      clear hsr hz t3 T2
      go_wp2_with fail
      go_ret
      exact ⟨rfl, T3.out⟩
end Go.Proofs.YtohajofkflibjaaDoor
