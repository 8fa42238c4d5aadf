/-
  storemanlaw19.awake: the chapter's examples stand. No condition.
-/
import Derived.Test.YtohajofkflibjaaGreatDoorAp4
namespace Go.Proofs.YtohajofkflibjaaGreatDoor
open Go.RowKit Go.Maps
set_option linter.unusedVariables false
set_option linter.unusedSimpArgs false

theorem comR_get : getR (putR comR ++ [9]) = some (comR, 19) := by
  have h := get_put comR_right comR_ok [9]
  rw [comR_put] at h
  rw [comR_put]
  exact h
set_option maxRecDepth 100000 in
set_option maxHeartbeats 4000000 in
theorem awake19_any (w : World) : Calls Tryz.prog 7 #[] w (OkNew w) := by
  have mixed : Tryz.prog.follows .mixedOrders = true := by kernel_rfl
  have HP := Lib.hid (fun (w' : World) => rput_any comR RecS.nil w' (nil_is w' comR rfl rfl rfl rfl rfl))
  unfold RPut at HP
  rw [comR_right, comR_put] at HP
  go_enter Tryz.func7, Tryz.ntmps7
  go_wp2_with fail
  refine (commit_any _).mono ?_
  rintro e w1 ⟨rfl, t1⟩
  have T1 := Lib.hid t1
  clear t1
  go_wp2_with fail
  refine (HP.out w1).mono ?_
  rintro e w2 ⟨A2, c2, rfl, o2, g2, t2⟩
  have T2 := Lib.hid (T1.out.and_ t2)
  have O2 := Lib.hid o2
  have l19 : ([0, 17, 3, 0, 0, 0, 0, 0, 0, 0, 3, 0, 0, 0, 0, 0, 0, 1, 2] : List Int).length = 19 := rfl
  rw [l19] at O2 ⊢
  clear o2 g2 t2 T1 HP
  go_wp2_with fail
  refine (copyB_any A2 19 c2 [0, 17, 3, 0, 0, 0, 0, 0, 0, 0, 3, 0, 0, 0, 0, 0, 0, 1, 2] w2 O2.out.bytS' (by omega) (by omega)).mono ?_
  rintro e w3 ⟨A3, c3, rfl, o3, g3, t3⟩
  have T3 := Lib.hid (T2.out.and_ t3)
  have O23 := Lib.hid (O2.out.turned t3 (fun _ _ e => e))
  have O3 := Lib.hid o3
  have G3 := Lib.hid (fun g e => Nat.le_trans T2.out.size (g3 g e))
  have G3b := Lib.hid (fun g (e : A3 = some ⟨g, 0, none⟩) => (show ∀ g2, A2 = some ⟨g2, 0, none⟩ → g2 ≠ g from fun g2 e2 => by have := O2.out.lt e2; have := g3 g e; omega))
  rw [l19] at O3 ⊢
  clear o3 g3 t3 T2 O2
  go_wp2_with (at_builtin; refine wpList_app2 bytT rfl (.tmp 16) (.tmp 17) rfl (O3.out.turned ((Turned.refl (fun _ => False) w3).alloc _) (fun _ _ e => e)) ⟨w3.heap.size, 0, none⟩ 1 1 [9] rfl (cell_one_new _ _ _) (by omega) (by omega) rfl rfl ?_; intro A4 c4 w4 ho4 hor4)
  have hsz3 : (w3.alloc (.cells #[.int .u8 9] 5)).heap.size = w3.heap.size + 1 := by simp
  have T4 := Lib.hid (show Turned (fun _ => False) w w4 from by
    have ta := T3.out.alloc (.cells #[.int .u8 9] 5)
    rcases hor4 with ⟨_, _, _, ht⟩ | ⟨_, ht⟩
    · exact ta.trans ht (fun _ e => e) (fun g e => .inr (G3.out g e))
    · exact ta.trans ht (fun _ e => e) (fun _ e => e.elim))
  have O24 := Lib.hid (show OwnV w4 A2 19 c2 [0, 17, 3, 0, 0, 0, 0, 0, 0, 0, 3, 0, 0, 0, 0, 0, 0, 1, 2] from by
    have oa := O23.out.turned ((Turned.refl (fun _ => False) w3).alloc (.cells #[.int .u8 9] 5)) (fun _ _ e => e)
    rcases hor4 with ⟨_, _, _, ht⟩ | ⟨_, ht⟩
    · exact oa.turned ht (fun g2 e2 e => G3b.out g2 e g2 e2 rfl)
    · exact oa.turned ht (fun _ _ e => e))
  have hg4 := rget_any A4 20 c4 [0, 17, 3, 0, 0, 0, 0, 0, 0, 0, 3, 0, 0, 0, 0, 0, 0, 1, 2, 9] w4 ho4.bytS' (by unfold isByte; simp) ho4.max.1 ho4.max.2
  have hget := comR_get
  rw [comR_put] at hget
  unfold RGet at hg4
  change getR [0, 17, 3, 0, 0, 0, 0, 0, 0, 0, 3, 0, 0, 0, 0, 0, 0, 1, 2, 9] = _ at hget
  rw [hget] at hg4
  refine hg4.mono ?_
  clear hg4 hget ho4 hor4 O23 O3 T3 G3 G3b
  rintro e w5 (⟨R5, n5, S5, hR5, rfl, hown5, t5⟩ | ⟨hno, _⟩)
  · injection hR5 with hR5
    injection hR5 with hR5 hn5
    subst hR5 hn5
    have T5 := Lib.hid (T4.out.and_ t5)
    have O25 := Lib.hid (O24.out.turned t5 (fun _ _ e => e))
    have I5 := Lib.hid hown5.is
    have BX := Lib.hid (Blk.new w5 29 (recC comR S5))
    have tX := Lib.hid ((Turned.refl (fun _ => False) w5).alloc (.cells (recC comR S5) 29))
    clear t5 hown5 T4 O24
    obtain ⟨⟨KA, Kn, Kc⟩, ⟨OA, On, Oc⟩, ⟨NA, Nn, Nc⟩, ⟨DA, Dn, Dc⟩, ⟨PA, Pn, Pc⟩⟩ := S5
    unfold recC comR at BX tX ⊢
    simp only at BX tX ⊢
    have hmin : (16 : Int) ≤ 19 := by omega
    have hle5 := O25.out.max
    have hc16 : (16 : Int) ≤ (c2 : Int) := by omega
    have hcm := hle5.2
    unfold maxLen at hcm
    clear hle5
    go_wp2_with fail
    have hmn : (min (19 : Int) 16).toNat = 16 := by decide
    rw [hmn]
    have A6 : RecAt (w5.alloc (.cells #[.int .i64 0, .int .i64 3, .int .i64 258, .int .i64 0, .int .u8 3, .int .i64 0, .slice KA Kn Kc, .slice OA On Oc, .slice NA Nn Nc, .slice DA Dn Dc, .slice PA Pn Pc] 29)) w5.heap.size comR ⟨⟨KA, Kn, Kc⟩, ⟨OA, On, Oc⟩, ⟨NA, Nn, Nc⟩, ⟨DA, Dn, Dc⟩, ⟨PA, Pn, Pc⟩⟩ := RecAt.of_blk BX.out
    have T6 := Lib.hid (T5.out.and_ tX.out)
    have O26 := Lib.hid (O25.out.turned tX.out (fun _ _ e => e))
    have I6 := Lib.hid (I5.out.fresh tX.out)
    clear T5 O25 I5 BX tX
    generalize w5.alloc (.cells #[.int .i64 0, .int .i64 3, .int .i64 258, .int .i64 0, .int .u8 3, .int .i64 0, .slice KA Kn Kc, .slice OA On Oc, .slice NA Nn Nc, .slice DA Dn Dc, .slice PA Pn Pc] 29) = w6 at *
    generalize w5.heap.size = bx at *
    have A6' := Lib.hid A6
    clear A6
    have hcut := comR_cut
    rw [comR_put] at hcut
    have hg6 := rget_any A2 16 c2 ([0, 17, 3, 0, 0, 0, 0, 0, 0, 0, 3, 0, 0, 0, 0, 0, 0, 1, 2].take 16) w6 ⟨O26.out.bytS'.toBytR.head (by omega), fun e => by have := O26.out.bytS'.nil_ e; omega⟩ (by unfold isByte; simp) (by omega) (by unfold maxLen; omega)
    unfold RGet at hg6
    rw [hcut] at hg6
    refine hg6.mono ?_
    clear hg6 hcut
    rintro e w7 (⟨_, _, _, hno, _⟩ | ⟨_, rfl, t7⟩)
    · cases hno
    · have T7 := Lib.hid (T6.out.and_ t7)
      have tY := (Turned.refl (fun _ => False) w7).alloc (.cells (recC Rec.zero RecS.nil) 29)
      have t78 := t7.and_ tY
      have T8 := Lib.hid (T6.out.and_ t78)
      have O28 := Lib.hid (O26.out.turned t78 (fun _ _ e => e))
      have I8 := Lib.hid (I6.out.fresh t78)
      have hS := A6'.out.fresh t78
      unfold recC Rec.zero RecS.nil Sl.nil at tY T8 O28 I8 hS ⊢
      simp only at tY T8 O28 I8 hS ⊢
      clear t7 tY t78 T6 O26 I6 A6' T7
      go_wp2_with fail
      generalize w7.alloc (.cells #[.int .i64 0, .int .i64 0, .int .i64 0, .int .i64 0, .int .u8 0, .int .i64 0, .slice none 0 0, .slice none 0 0, .slice none 0 0, .slice none 0 0, .slice none 0 0] 29) = w8 at *
      refine wp_region_segs (fun w' => RecAt w' bx comR ⟨⟨KA, Kn, Kc⟩, ⟨OA, On, Oc⟩, ⟨NA, Nn, Nc⟩, ⟨DA, Dn, Dc⟩, ⟨PA, Pn, Pc⟩⟩) (segT [0, 1, 2, 3] ++ segF [4, 5] ++ segT [6, 7, 8, 9, 10, 11, 12, 13, 14, 15, 16] ++ segF [17, 18] ++ segT [19, 20, 21, 22, 23, 24]) mixed (by kernel_rfl) (fun _ _ _ _ _ h => h) ?_
      simp only [segT, segF, pickSegs, List.map_cons, List.map_nil, List.cons_append, List.nil_append, List.filterMap_cons, List.filterMap_nil, List.getElem?_cons_zero, List.getElem?_cons_succ, Option.map_some]
      have hS0 := hS
      have hS := hS0.fresh ((Turned.refl (fun _ => False) w8).drew)
      iterate 4 (refine wpSegs_take (v := ?_) hS rfl (fun w' hw => ?_) ?_; rotate_left; (obtain ⟨hw0, hw1, hw2, hw3, hw4, hw5, hw6, hw7, hw8, hw9, hw10⟩ := hw; simp only [comR] at hw0 hw1 hw2 hw3 hw4 hw5; go_simp; try with_reducible rfl); try simp only [Act.put, List.setIfInBounds_toArray, List.set_cons_zero, List.set_cons_succ])
      have tD := (Turned.refl (fun _ => False) w8).alloc (.cells (u8s [0, 17, 3, 0, 0, 0, 0, 0, 0, 0, 3, 0, 0, 0, 0, 0, 0, 1, 2]).toArray 5)
      have hS9 := hS0.fresh (tD.drew)
      have hSB := hS0.fresh tD
      have O29 := Lib.hid (O28.out.turned tD (fun _ _ e => e))
      have hn := (Blk.new w8 5 (u8s [0, 17, 3, 0, 0, 0, 0, 0, 0, 0, 3, 0, 0, 0, 0, 0, 0, 1, 2]).toArray)
      have hnr : RowB (w8.alloc (.cells (u8s [0, 17, 3, 0, 0, 0, 0, 0, 0, 0, 3, 0, 0, 0, 0, 0, 0, 1, 2]).toArray 5)) 5 w8.heap.size 19 19 [0, 17, 3, 0, 0, 0, 0, 0, 0, 0, 3, 0, 0, 0, 0, 0, 0, 1, 2] := ⟨rfl, Nat.le_refl _, by unfold maxLen; omega, _, hn, rfl, rfl⟩
      have hnr' := Lib.hid hnr
      have T9 := Lib.hid (T8.out.and_ tD)
      have I9 := Lib.hid (I8.out.fresh tD)
      clear hn hnr tD T8 O28 I8 hS hS0
      refine wpSegs_run rfl (fun K hK => ?_)
      go_simp
      refine hK.out _ _ hS9 ?_
      clear hK K
      refine wpSegs_run rfl (fun K hK => ?_)
      go_simp
      refine (same_yes A2 _ 19 19 c2 19 [0, 17, 3, 0, 0, 0, 0, 0, 0, 0, 3, 0, 0, 0, 0, 0, 0, 1, 2] [0, 17, 3, 0, 0, 0, 0, 0, 0, 0, 3, 0, 0, 0, 0, 0, 0, 1, 2] _ ((O29.out.bytS'.turned ((Turned.refl (fun _ => False) _).drew) (fun _ _ _ e => e)).toBytR) ((hnr'.out.turned ((Turned.refl (fun _ => False) _).drew) (fun e => e)).bytR) rfl).mono ?_
      rintro e w9 ⟨rfl, nq, rfl⟩
      have hS := hS9.fresh ((Turned.refl (fun _ => False) (w8.alloc (.cells (u8s [0, 17, 3, 0, 0, 0, 0, 0, 0, 0, 3, 0, 0, 0, 0, 0, 0, 1, 2]).toArray 5)).drew).drewN nq)
      refine hK.out _ _ hS ?_
      clear hK K
      iterate 11 (refine wpSegs_take (v := ?_) hS rfl (fun w' hw => ?_) ?_; rotate_left; (obtain ⟨hw0, hw1, hw2, hw3, hw4, hw5, hw6, hw7, hw8, hw9, hw10⟩ := hw; simp only [comR] at hw0 hw1 hw2 hw3 hw4 hw5; go_simp; try with_reducible rfl); try simp only [Act.put, List.setIfInBounds_toArray, List.set_cons_zero, List.set_cons_succ])
      refine wpSegs_run rfl (fun K hK => ?_)
      go_simp
      refine (commit_any _).mono ?_
      rintro e w10 ⟨rfl, t10⟩
      have tQ := ((Turned.refl (fun _ => False) (w8.alloc (.cells (u8s [0, 17, 3, 0, 0, 0, 0, 0, 0, 0, 3, 0, 0, 0, 0, 0, 0, 1, 2]).toArray 5))).drewN (1 + nq)).and_ t10
      have hS := hSB.fresh tQ
      have IQ := I9.out.fresh tQ
      have TQ := Lib.hid (T9.out.and_ tQ)
      clear tQ t10 T9 I9 hSB hS9 O29 hnr'
      refine hK.out _ _ hS ?_
      clear hK K
      refine wpSegs_run rfl (fun K hK => ?_)
      go_simp
      have hsr := sameR_any comR ⟨⟨KA, Kn, Kc⟩, ⟨OA, On, Oc⟩, ⟨NA, Nn, Nc⟩, ⟨DA, Dn, Dc⟩, ⟨PA, Pn, Pc⟩⟩ RecS.nil w10 IQ (nil_is w10 comR rfl rfl rfl rfl rfl)
      unfold recC comR RecS.nil Sl.nil at hsr
      simp only at hsr
      refine hsr.mono ?_
      clear hsr
      rintro e w11 ⟨rfl, t11⟩
      have hS := hS.fresh t11
      refine hK.out _ _ hS ?_
      clear hK K
      iterate 6 (refine wpSegs_take (v := ?_) hS rfl (fun w' hw => ?_) ?_; rotate_left; (obtain ⟨hw0, hw1, hw2, hw3, hw4, hw5, hw6, hw7, hw8, hw9, hw10⟩ := hw; simp only [comR] at hw0 hw1 hw2 hw3 hw4 hw5; go_simp; try with_reducible rfl); try simp only [Act.put, List.setIfInBounds_toArray, List.set_cons_zero, List.set_cons_succ])
      refine wpSegs_nil ?_
      have TR := Lib.hid (TQ.out.and_ t11)
      clear TQ t11 IQ hS
      go_wp2_with fail
      go_ret
      exact ⟨rfl, TR.out⟩
  · cases hno
end Go.Proofs.YtohajofkflibjaaGreatDoor

