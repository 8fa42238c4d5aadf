/-
  ask.Put: a command's bytes. Conditions: ask.kinds holds what its initialiser lays; at most 1000000 parts.
-/
import Derived.Test.YtijmfglgeaaoaaaGreatDoorQAskD
import Derived.Deep.CutRange
namespace Go.Proofs.YtijmfglgeaaoaaaGreatDoor
open Go.RowKit Go.Maps
set_option linter.unusedVariables false
set_option linter.unusedSimpArgs false

theorem be1_byte {k : Int} (h : isByte k) : be 1 k = [k] := by
  have e : be 1 k = [k / 2 ^ (8 * (1 - 1 - 0)) % 256] := rfl
  rw [e]
  unfold isByte at h
  simp
  omega
set_option maxRecDepth 100000 in
set_option maxHeartbeats 16000000 in
theorem ask_put_any (a : AskV) (S : AskS) (w : World) (hI : AskIs w a S) (hOk : a.Ok) (hK : KindsOk w) (hP : a.parts.length ≤ 1000000) : Calls Tryz.prog 18 #[.agg (askC a S)] w (APut a w) := by
  have mixed : Tryz.prog.follows .mixedOrders = true := by kernel_rfl
  have hF := Lib.hid (fun (w' : World) (h : KindsOk w') => fields_any a.kind w' hOk.kind h)
  have hR := Lib.hid (fun (w' : World) (ht : Turned (fun _ => False) w w') => ask_right_any a S w' (hI.fresh ht) hOk (hK.fresh ht) hP)
  have hkb := Lib.hid (be1_byte hOk.kind)
  unfold APut
  have hIs := Lib.hid hI
  have hK' := Lib.hid (fun (w' : World) (ht : Turned (fun _ => False) w w') => hK.fresh ht)
  obtain ⟨kind, request, item, qty, day, days, rank, lot, line, parts, others⟩ := a
  obtain ⟨⟨PA, Pn, Pc⟩, ⟨QA, On, Oc⟩⟩ := S
  have hPl := Lib.hid hI.parts.len
  have hOl := Lib.hid hI.others.len
  have hItem : strOk item := hOk.item
  have hPo : ∀ p ∈ parts, strOk p.1 := fun p hp => (hOk.parts p hp).1
  have hOo : ∀ x ∈ others, strOk x := hOk.others
  simp only at hF hkb
  have hPmx := hI.parts.max
  have hOmx := hI.others.max
  have hOle := hI.others.le
  have hPle := hI.parts.le
  simp only at hPmx hOmx hOle hPle
  unfold maxLen at hPmx hOmx
  have tA := Lib.hid ((Turned.refl (fun _ => False) w).alloc (.cells (askC ⟨kind, request, item, qty, day, days, rank, lot, line, parts, others⟩ ⟨⟨PA, Pn, Pc⟩, ⟨QA, On, Oc⟩⟩) 29))
  have bA := Lib.hid (Blk.new w 29 (askC ⟨kind, request, item, qty, day, days, rank, lot, line, parts, others⟩ ⟨⟨PA, Pn, Pc⟩, ⟨QA, On, Oc⟩⟩))
  clear hI hOk hK hP
  unfold askC strV at tA bA hR ⊢
  simp only at tA bA hR ⊢
  cases hr : rightA ⟨kind, request, item, qty, day, days, rank, lot, line, parts, others⟩ with
  | false =>
    rw [hr] at hR
    clear hr
    go_enter Tryz.func18, Tryz.ntmps18
    go_wp2_with fail
    refine (hR.out _ tA.out).mono ?_
    rintro e w1 ⟨rfl, t1⟩
    have T1 := Lib.hid (tA.out.and_ t1)
    clear t1
    go_wp2_with fail
    go_ret2
    exact ⟨rfl, T1.out⟩
  | true =>
    obtain ⟨f, hf, _, _, hfit⟩ := rightA_some hr
    have hpA := Lib.hid (show putA ⟨kind, request, item, qty, day, days, rank, lot, line, parts, others⟩ = headA ⟨kind, request, item, qty, day, days, rank, lot, line, parts, others⟩ ++ f.flatMap (encF ⟨kind, request, item, qty, day, days, rank, lot, line, parts, others⟩) from by unfold putA; rw [if_pos hr]; exact bodyA_eq hf)
    have hfk := fieldsK_kinds hf
    have hfl := (kinds_letters hfk).1
    have hokf := Lib.hid (show ∀ c ∈ f, okF ⟨kind, request, item, qty, day, days, rank, lot, line, parts, others⟩ c = true from fun c hc => by
      have := hfit c ((kinds_letters hfk).2 c hc)
      unfold fitF at this
      rw [if_pos (by simpa using hc)] at this
      exact this)
    rw [hr] at hR
    unfold FieldsPost at hF
    simp only at hf
    rw [fields_some hf] at hF
    clear hf hfit hr
    go_enter Tryz.func18, Tryz.ntmps18
    go_wp2_with fail
    refine (hR.out _ tA.out).mono ?_
    rintro e w1 ⟨rfl, t1⟩
    have T1 := Lib.hid (tA.out.and_ t1)
    have A1 := Lib.hid (show AskAt w1 w.heap.size ⟨kind, request, item, qty, day, days, rank, lot, line, parts, others⟩ ⟨⟨PA, Pn, Pc⟩, ⟨QA, On, Oc⟩⟩ from bA.out.turned t1 (fun e => e))
    clear t1 tA bA hR
    have hba0 := Lib.hid (Nat.le_refl w.heap.size)
    generalize hba : w.heap.size = ba at A1 hba0 ⊢
    have hba' := Lib.hid hba
    clear hba
    go_upto_region 3 with fail
    go_cut [4] from 17 (fun u4 wc => ∃ bo A c, u4 = .pointer (some ⟨bo, 0, none⟩) ∧ Blk wc bo 22 #[.slice A (1 + (be 8 request).length) c] ∧ OwnV wc A (1 + (be 8 request).length) c ([kind] ++ be 8 request) ∧ w1.heap.size ≤ bo ∧ (∀ g, A = some ⟨g, 0, none⟩ → w1.heap.size ≤ g) ∧ Turned (fun _ => False) w1 wc ∧ AskAt wc ba ⟨kind, request, item, qty, day, days, rank, lot, line, parts, others⟩ ⟨⟨PA, Pn, Pc⟩, ⟨QA, On, Oc⟩⟩)
    case first =>
      refine wp_region_ts (fun w' => AskAt w' ba ⟨kind, request, item, qty, day, days, rank, lot, line, parts, others⟩ ⟨⟨PA, Pn, Pc⟩, ⟨QA, On, Oc⟩⟩) (tsT [0, 1, 3, 4] (.three 2 5 7 (.two 5 7 (.two 6 7 (.run 7 (.run 8 .nil)) (.run 6 (.run 8 .nil))) (.run 5 (.run 6 (.run 8 .nil)))) (.two 2 7 (.two 6 7 (.run 7 (.run 8 .nil)) (.run 6 (.run 8 .nil))) (.run 2 (.run 6 (.run 8 .nil)))) (.two 2 5 (.run 5 (.run 6 (.run 8 .nil))) (.run 2 (.run 6 (.run 8 .nil)))))) mixed (by kernel_rfl) (fun _ _ _ _ _ h => h) ?_
      simp only [tsT, tsF, List.foldr_cons, List.foldr_nil, Ts.map, List.getElem?_cons_zero, List.getElem?_cons_succ]
      have AAd := Lib.hid (A1.out.fresh ((Turned.refl (fun _ => False) w1).drew))
      have TTd := Lib.hid ((Turned.refl (fun _ => False) w1).drew)
      have hS := AAd.out
      iterate 4 (refine ts_take (v := ?_) hS rfl (fun w' hw => ?_) ?_; rotate_left; (focus ((try (obtain ⟨c0, c1, c2, c3, c4, c5, c6, c7, c8, c9, c10⟩ := AskAt.cells hw; simp only at c0 c1 c2 c3 c4 c5 c6 c7 c8 c9 c10)); go_simp; (try with_reducible rfl); done)); try simp only [Act.put, List.setIfInBounds_toArray, List.set_cons_zero, List.set_cons_succ])
      clear hS
      obtain ⟨wd, hwd⟩ : ∃ wd, wd = w1.drew := ⟨_, rfl⟩
      rw [← hwd] at AAd TTd ⊢
      clear hwd
      refine ts_three ?_ ?_ ?_
      · refine now_run rfl (fun K hK => ?_)
        go_simp
        have HGS : w1.heap.size ≤ wd.heap.size := TTd.out.size
        have tx := (Turned.refl (fun _ => False) wd).alloc (.cells #[.int .u8 kind] 5)
        have OB1 := Lib.hid (OwnV.one wd kind)
        have AA1 := Lib.hid (AAd.out.fresh tx)
        clear AAd
        have TT1 := Lib.hid (TTd.out.and_ tx)
        clear TTd
        refine hK.out _ _ AA1.out ?_
        clear hK K tx
        generalize wd.alloc (.cells #[.int .u8 kind] 5) = W1 at *
        have hgs := Lib.hid (show w1.heap.size ≤ wd.heap.size from HGS)
        generalize wd.heap.size = gs at *
        refine ts_two ?_ ?_
        · refine now_run rfl (fun K hK => ?_)
          go_simp
          refine (anum_any request 8 W1 (by omega) (by omega)).mono ?_
          rintro e W2 ⟨A2, c2, rfl, o2, g2, tx⟩
          have ON2 := Lib.hid o2
          clear o2 g2
          have AA2 := Lib.hid (AA1.out.fresh tx)
          clear AA1
          have TT2 := Lib.hid (TT1.out.and_ tx)
          clear TT1
          have OB2 := Lib.hid (OB1.out.turned tx (fun _ _ e => e))
          clear OB1
          refine hK.out _ _ AA2.out ?_
          clear hK K tx
          refine ts_two ?_ ?_
          · refine now_run rfl (fun K hK => ?_)
            refine wp_appB (.tmp 19) (.tmp 22) rfl OB2.out ON2.out (by rw [be_length]; omega) (by rw [be_length]; omega) rfl rfl ?_
            intro A4 c4 W3 ho4 hor4
            have hm4 := hor4.mine TT2.out (fun g e => by injection e with e; injection e with e; have := hgs.out; omega)
            have TT3 := Lib.hid hm4.1
            have G4 := Lib.hid hm4.2
            have OA3 := Lib.hid ho4
            have AA3 := Lib.hid (AA2.out.turned hor4.turned (fun e => OB2.out.blk AA2.out (by decide) e rfl))
            clear ho4 hor4 hm4
            refine hK.out _ _ AA3.out ?_
            clear hK K
            try simp only [Act.put, List.setIfInBounds_toArray, List.set_cons_zero, List.set_cons_succ]
            refine ts_run rfl (fun K hK => ?_)
            go_simp
            have tx := (Turned.refl (fun _ => False) W3).alloc (.cells #[.slice none 0 0] 22)
            have OX4 := Lib.hid (Blk.new W3 22 #[.slice none 0 0])
            have GX := Lib.hid (show w1.heap.size ≤ W3.heap.size from TT3.out.size)
            have AA4 := Lib.hid (AA3.out.fresh tx)
            clear AA3
            have TT4 := Lib.hid (TT3.out.and_ tx)
            clear TT3
            have OA4 := Lib.hid (OA3.out.turned tx (fun _ _ e => e))
            clear OA3
            refine hK.out _ _ AA4.out ?_
            clear hK K tx
            generalize W3.alloc (.cells #[.slice none 0 0] 22) = W4 at *
            generalize W3.heap.size = bo at *
            refine ts_run rfl (fun K hK => ?_)
            have x8 := OX4.out.cell 0
            have f8 := OX4.out.frozen 0
            go_simp
            have nA : ∀ g, A4 = some ⟨g, 0, none⟩ → g ≠ bo := fun g e => OA4.out.blk OX4.out (by decide) e
            refine hK.out _ _ (Blk.far AA4.out (Blk.ne_ AA4.out OX4.out (by decide)) _) ?_
            clear hK K
            refine ts_nil ?_
            go_wp2_with fail
            go_meet
            have hX := OX4.out.set_ 0 (.slice A4 (1 + (be 8 request).length) c4)
            simp only [List.setIfInBounds_toArray, List.set_cons_zero] at hX
            exact ⟨bo, A4, c4, rfl, hX, OA4.out.far (fun e => nA _ e rfl) 0 _, GX.out, G4.out, TT4.out.setCell (.inr GX.out) _, Blk.far AA4.out (Blk.ne_ AA4.out OX4.out (by decide)) _⟩
          · refine now_run rfl (fun K hK => ?_)
            go_simp
            have tx := (Turned.refl (fun _ => False) W2).alloc (.cells #[.slice none 0 0] 22)
            have OX3 := Lib.hid (Blk.new W2 22 #[.slice none 0 0])
            have GX := Lib.hid (show w1.heap.size ≤ W2.heap.size from TT2.out.size)
            have AA3 := Lib.hid (AA2.out.fresh tx)
            clear AA2
            have TT3 := Lib.hid (TT2.out.and_ tx)
            clear TT2
            have OB3 := Lib.hid (OB2.out.turned tx (fun _ _ e => e))
            clear OB2
            have ON3 := Lib.hid (ON2.out.turned tx (fun _ _ e => e))
            clear ON2
            refine hK.out _ _ AA3.out ?_
            clear hK K tx
            generalize W2.alloc (.cells #[.slice none 0 0] 22) = W3 at *
            generalize W2.heap.size = bo at *
            refine ts_run rfl (fun K hK => ?_)
            refine wp_appB (.tmp 19) (.tmp 22) rfl OB3.out ON3.out (by rw [be_length]; omega) (by rw [be_length]; omega) rfl rfl ?_
            intro A4 c4 W4 ho4 hor4
            have hm4 := hor4.mine TT3.out (fun g e => by injection e with e; injection e with e; have := hgs.out; omega)
            have TT4 := Lib.hid hm4.1
            have G4 := Lib.hid hm4.2
            have OA4 := Lib.hid ho4
            have AA4 := Lib.hid (AA3.out.turned hor4.turned (fun e => OB3.out.blk AA3.out (by decide) e rfl))
            have OX4 := Lib.hid (OX3.out.turned hor4.turned (fun e => OB3.out.blk OX3.out (by decide) e rfl))
            clear ho4 hor4 hm4
            refine hK.out _ _ AA4.out ?_
            clear hK K
            try simp only [Act.put, List.setIfInBounds_toArray, List.set_cons_zero, List.set_cons_succ]
            refine ts_run rfl (fun K hK => ?_)
            have x8 := OX4.out.cell 0
            have f8 := OX4.out.frozen 0
            go_simp
            have nA : ∀ g, A4 = some ⟨g, 0, none⟩ → g ≠ bo := fun g e => OA4.out.blk OX4.out (by decide) e
            refine hK.out _ _ (Blk.far AA4.out (Blk.ne_ AA4.out OX4.out (by decide)) _) ?_
            clear hK K
            refine ts_nil ?_
            go_wp2_with fail
            go_meet
            have hX := OX4.out.set_ 0 (.slice A4 (1 + (be 8 request).length) c4)
            simp only [List.setIfInBounds_toArray, List.set_cons_zero] at hX
            exact ⟨bo, A4, c4, rfl, hX, OA4.out.far (fun e => nA _ e rfl) 0 _, GX.out, G4.out, TT4.out.setCell (.inr GX.out) _, Blk.far AA4.out (Blk.ne_ AA4.out OX4.out (by decide)) _⟩
        · refine now_run rfl (fun K hK => ?_)
          go_simp
          have tx := (Turned.refl (fun _ => False) W1).alloc (.cells #[.slice none 0 0] 22)
          have OX2 := Lib.hid (Blk.new W1 22 #[.slice none 0 0])
          have GX := Lib.hid (show w1.heap.size ≤ W1.heap.size from TT1.out.size)
          have AA2 := Lib.hid (AA1.out.fresh tx)
          clear AA1
          have TT2 := Lib.hid (TT1.out.and_ tx)
          clear TT1
          have OB2 := Lib.hid (OB1.out.turned tx (fun _ _ e => e))
          clear OB1
          refine hK.out _ _ AA2.out ?_
          clear hK K tx
          generalize W1.alloc (.cells #[.slice none 0 0] 22) = W2 at *
          generalize W1.heap.size = bo at *
          refine ts_run rfl (fun K hK => ?_)
          go_simp
          refine (anum_any request 8 W2 (by omega) (by omega)).mono ?_
          rintro e W3 ⟨A2, c2, rfl, o2, g2, tx⟩
          have ON3 := Lib.hid o2
          clear o2 g2
          have AA3 := Lib.hid (AA2.out.fresh tx)
          clear AA2
          have TT3 := Lib.hid (TT2.out.and_ tx)
          clear TT2
          have OB3 := Lib.hid (OB2.out.turned tx (fun _ _ e => e))
          clear OB2
          have OX3 := Lib.hid (OX2.out.turned tx (fun e => e))
          clear OX2
          refine hK.out _ _ AA3.out ?_
          clear hK K tx
          refine ts_run rfl (fun K hK => ?_)
          refine wp_appB (.tmp 19) (.tmp 22) rfl OB3.out ON3.out (by rw [be_length]; omega) (by rw [be_length]; omega) rfl rfl ?_
          intro A4 c4 W4 ho4 hor4
          have hm4 := hor4.mine TT3.out (fun g e => by injection e with e; injection e with e; have := hgs.out; omega)
          have TT4 := Lib.hid hm4.1
          have G4 := Lib.hid hm4.2
          have OA4 := Lib.hid ho4
          have AA4 := Lib.hid (AA3.out.turned hor4.turned (fun e => OB3.out.blk AA3.out (by decide) e rfl))
          have OX4 := Lib.hid (OX3.out.turned hor4.turned (fun e => OB3.out.blk OX3.out (by decide) e rfl))
          clear ho4 hor4 hm4
          refine hK.out _ _ AA4.out ?_
          clear hK K
          try simp only [Act.put, List.setIfInBounds_toArray, List.set_cons_zero, List.set_cons_succ]
          refine ts_run rfl (fun K hK => ?_)
          have x8 := OX4.out.cell 0
          have f8 := OX4.out.frozen 0
          go_simp
          have nA : ∀ g, A4 = some ⟨g, 0, none⟩ → g ≠ bo := fun g e => OA4.out.blk OX4.out (by decide) e
          refine hK.out _ _ (Blk.far AA4.out (Blk.ne_ AA4.out OX4.out (by decide)) _) ?_
          clear hK K
          refine ts_nil ?_
          go_wp2_with fail
          go_meet
          have hX := OX4.out.set_ 0 (.slice A4 (1 + (be 8 request).length) c4)
          simp only [List.setIfInBounds_toArray, List.set_cons_zero] at hX
          exact ⟨bo, A4, c4, rfl, hX, OA4.out.far (fun e => nA _ e rfl) 0 _, GX.out, G4.out, TT4.out.setCell (.inr GX.out) _, Blk.far AA4.out (Blk.ne_ AA4.out OX4.out (by decide)) _⟩
      · refine now_run rfl (fun K hK => ?_)
        go_simp
        refine (anum_any request 8 wd (by omega) (by omega)).mono ?_
        rintro e W1 ⟨A2, c2, rfl, o2, g2, tx⟩
        have ON1 := Lib.hid o2
        clear o2 g2
        have AA1 := Lib.hid (AAd.out.fresh tx)
        clear AAd
        have TT1 := Lib.hid (TTd.out.and_ tx)
        clear TTd
        refine hK.out _ _ AA1.out ?_
        clear hK K tx
        refine ts_two ?_ ?_
        · refine now_run rfl (fun K hK => ?_)
          go_simp
          have HGS : w1.heap.size ≤ W1.heap.size := TT1.out.size
          have tx := (Turned.refl (fun _ => False) W1).alloc (.cells #[.int .u8 kind] 5)
          have OB2 := Lib.hid (OwnV.one W1 kind)
          have AA2 := Lib.hid (AA1.out.fresh tx)
          clear AA1
          have TT2 := Lib.hid (TT1.out.and_ tx)
          clear TT1
          have ON2 := Lib.hid (ON1.out.turned tx (fun _ _ e => e))
          clear ON1
          refine hK.out _ _ AA2.out ?_
          clear hK K tx
          generalize W1.alloc (.cells #[.int .u8 kind] 5) = W2 at *
          have hgs := Lib.hid (show w1.heap.size ≤ W1.heap.size from HGS)
          generalize W1.heap.size = gs at *
          refine ts_two ?_ ?_
          · refine now_run rfl (fun K hK => ?_)
            refine wp_appB (.tmp 19) (.tmp 22) rfl OB2.out ON2.out (by rw [be_length]; omega) (by rw [be_length]; omega) rfl rfl ?_
            intro A4 c4 W3 ho4 hor4
            have hm4 := hor4.mine TT2.out (fun g e => by injection e with e; injection e with e; have := hgs.out; omega)
            have TT3 := Lib.hid hm4.1
            have G4 := Lib.hid hm4.2
            have OA3 := Lib.hid ho4
            have AA3 := Lib.hid (AA2.out.turned hor4.turned (fun e => OB2.out.blk AA2.out (by decide) e rfl))
            clear ho4 hor4 hm4
            refine hK.out _ _ AA3.out ?_
            clear hK K
            try simp only [Act.put, List.setIfInBounds_toArray, List.set_cons_zero, List.set_cons_succ]
            refine ts_run rfl (fun K hK => ?_)
            go_simp
            have tx := (Turned.refl (fun _ => False) W3).alloc (.cells #[.slice none 0 0] 22)
            have OX4 := Lib.hid (Blk.new W3 22 #[.slice none 0 0])
            have GX := Lib.hid (show w1.heap.size ≤ W3.heap.size from TT3.out.size)
            have AA4 := Lib.hid (AA3.out.fresh tx)
            clear AA3
            have TT4 := Lib.hid (TT3.out.and_ tx)
            clear TT3
            have OA4 := Lib.hid (OA3.out.turned tx (fun _ _ e => e))
            clear OA3
            refine hK.out _ _ AA4.out ?_
            clear hK K tx
            generalize W3.alloc (.cells #[.slice none 0 0] 22) = W4 at *
            generalize W3.heap.size = bo at *
            refine ts_run rfl (fun K hK => ?_)
            have x8 := OX4.out.cell 0
            have f8 := OX4.out.frozen 0
            go_simp
            have nA : ∀ g, A4 = some ⟨g, 0, none⟩ → g ≠ bo := fun g e => OA4.out.blk OX4.out (by decide) e
            refine hK.out _ _ (Blk.far AA4.out (Blk.ne_ AA4.out OX4.out (by decide)) _) ?_
            clear hK K
            refine ts_nil ?_
            go_wp2_with fail
            go_meet
            have hX := OX4.out.set_ 0 (.slice A4 (1 + (be 8 request).length) c4)
            simp only [List.setIfInBounds_toArray, List.set_cons_zero] at hX
            exact ⟨bo, A4, c4, rfl, hX, OA4.out.far (fun e => nA _ e rfl) 0 _, GX.out, G4.out, TT4.out.setCell (.inr GX.out) _, Blk.far AA4.out (Blk.ne_ AA4.out OX4.out (by decide)) _⟩
          · refine now_run rfl (fun K hK => ?_)
            go_simp
            have tx := (Turned.refl (fun _ => False) W2).alloc (.cells #[.slice none 0 0] 22)
            have OX3 := Lib.hid (Blk.new W2 22 #[.slice none 0 0])
            have GX := Lib.hid (show w1.heap.size ≤ W2.heap.size from TT2.out.size)
            have AA3 := Lib.hid (AA2.out.fresh tx)
            clear AA2
            have TT3 := Lib.hid (TT2.out.and_ tx)
            clear TT2
            have ON3 := Lib.hid (ON2.out.turned tx (fun _ _ e => e))
            clear ON2
            have OB3 := Lib.hid (OB2.out.turned tx (fun _ _ e => e))
            clear OB2
            refine hK.out _ _ AA3.out ?_
            clear hK K tx
            generalize W2.alloc (.cells #[.slice none 0 0] 22) = W3 at *
            generalize W2.heap.size = bo at *
            refine ts_run rfl (fun K hK => ?_)
            refine wp_appB (.tmp 19) (.tmp 22) rfl OB3.out ON3.out (by rw [be_length]; omega) (by rw [be_length]; omega) rfl rfl ?_
            intro A4 c4 W4 ho4 hor4
            have hm4 := hor4.mine TT3.out (fun g e => by injection e with e; injection e with e; have := hgs.out; omega)
            have TT4 := Lib.hid hm4.1
            have G4 := Lib.hid hm4.2
            have OA4 := Lib.hid ho4
            have AA4 := Lib.hid (AA3.out.turned hor4.turned (fun e => OB3.out.blk AA3.out (by decide) e rfl))
            have OX4 := Lib.hid (OX3.out.turned hor4.turned (fun e => OB3.out.blk OX3.out (by decide) e rfl))
            clear ho4 hor4 hm4
            refine hK.out _ _ AA4.out ?_
            clear hK K
            try simp only [Act.put, List.setIfInBounds_toArray, List.set_cons_zero, List.set_cons_succ]
            refine ts_run rfl (fun K hK => ?_)
            have x8 := OX4.out.cell 0
            have f8 := OX4.out.frozen 0
            go_simp
            have nA : ∀ g, A4 = some ⟨g, 0, none⟩ → g ≠ bo := fun g e => OA4.out.blk OX4.out (by decide) e
            refine hK.out _ _ (Blk.far AA4.out (Blk.ne_ AA4.out OX4.out (by decide)) _) ?_
            clear hK K
            refine ts_nil ?_
            go_wp2_with fail
            go_meet
            have hX := OX4.out.set_ 0 (.slice A4 (1 + (be 8 request).length) c4)
            simp only [List.setIfInBounds_toArray, List.set_cons_zero] at hX
            exact ⟨bo, A4, c4, rfl, hX, OA4.out.far (fun e => nA _ e rfl) 0 _, GX.out, G4.out, TT4.out.setCell (.inr GX.out) _, Blk.far AA4.out (Blk.ne_ AA4.out OX4.out (by decide)) _⟩
        · refine now_run rfl (fun K hK => ?_)
          go_simp
          have tx := (Turned.refl (fun _ => False) W1).alloc (.cells #[.slice none 0 0] 22)
          have OX2 := Lib.hid (Blk.new W1 22 #[.slice none 0 0])
          have GX := Lib.hid (show w1.heap.size ≤ W1.heap.size from TT1.out.size)
          have AA2 := Lib.hid (AA1.out.fresh tx)
          clear AA1
          have TT2 := Lib.hid (TT1.out.and_ tx)
          clear TT1
          have ON2 := Lib.hid (ON1.out.turned tx (fun _ _ e => e))
          clear ON1
          refine hK.out _ _ AA2.out ?_
          clear hK K tx
          generalize W1.alloc (.cells #[.slice none 0 0] 22) = W2 at *
          generalize W1.heap.size = bo at *
          refine ts_run rfl (fun K hK => ?_)
          go_simp
          have HGS : w1.heap.size ≤ W2.heap.size := TT2.out.size
          have tx := (Turned.refl (fun _ => False) W2).alloc (.cells #[.int .u8 kind] 5)
          have OB3 := Lib.hid (OwnV.one W2 kind)
          have AA3 := Lib.hid (AA2.out.fresh tx)
          clear AA2
          have TT3 := Lib.hid (TT2.out.and_ tx)
          clear TT2
          have ON3 := Lib.hid (ON2.out.turned tx (fun _ _ e => e))
          clear ON2
          have OX3 := Lib.hid (OX2.out.turned tx (fun e => e))
          clear OX2
          refine hK.out _ _ AA3.out ?_
          clear hK K tx
          generalize W2.alloc (.cells #[.int .u8 kind] 5) = W3 at *
          have hgs := Lib.hid (show w1.heap.size ≤ W2.heap.size from HGS)
          generalize W2.heap.size = gs at *
          refine ts_run rfl (fun K hK => ?_)
          refine wp_appB (.tmp 19) (.tmp 22) rfl OB3.out ON3.out (by rw [be_length]; omega) (by rw [be_length]; omega) rfl rfl ?_
          intro A4 c4 W4 ho4 hor4
          have hm4 := hor4.mine TT3.out (fun g e => by injection e with e; injection e with e; have := hgs.out; omega)
          have TT4 := Lib.hid hm4.1
          have G4 := Lib.hid hm4.2
          have OA4 := Lib.hid ho4
          have AA4 := Lib.hid (AA3.out.turned hor4.turned (fun e => OB3.out.blk AA3.out (by decide) e rfl))
          have OX4 := Lib.hid (OX3.out.turned hor4.turned (fun e => OB3.out.blk OX3.out (by decide) e rfl))
          clear ho4 hor4 hm4
          refine hK.out _ _ AA4.out ?_
          clear hK K
          try simp only [Act.put, List.setIfInBounds_toArray, List.set_cons_zero, List.set_cons_succ]
          refine ts_run rfl (fun K hK => ?_)
          have x8 := OX4.out.cell 0
          have f8 := OX4.out.frozen 0
          go_simp
          have nA : ∀ g, A4 = some ⟨g, 0, none⟩ → g ≠ bo := fun g e => OA4.out.blk OX4.out (by decide) e
          refine hK.out _ _ (Blk.far AA4.out (Blk.ne_ AA4.out OX4.out (by decide)) _) ?_
          clear hK K
          refine ts_nil ?_
          go_wp2_with fail
          go_meet
          have hX := OX4.out.set_ 0 (.slice A4 (1 + (be 8 request).length) c4)
          simp only [List.setIfInBounds_toArray, List.set_cons_zero] at hX
          exact ⟨bo, A4, c4, rfl, hX, OA4.out.far (fun e => nA _ e rfl) 0 _, GX.out, G4.out, TT4.out.setCell (.inr GX.out) _, Blk.far AA4.out (Blk.ne_ AA4.out OX4.out (by decide)) _⟩
      · refine now_run rfl (fun K hK => ?_)
        go_simp
        have tx := (Turned.refl (fun _ => False) wd).alloc (.cells #[.slice none 0 0] 22)
        have OX1 := Lib.hid (Blk.new wd 22 #[.slice none 0 0])
        have GX := Lib.hid (show w1.heap.size ≤ wd.heap.size from TTd.out.size)
        have AA1 := Lib.hid (AAd.out.fresh tx)
        clear AAd
        have TT1 := Lib.hid (TTd.out.and_ tx)
        clear TTd
        refine hK.out _ _ AA1.out ?_
        clear hK K tx
        generalize wd.alloc (.cells #[.slice none 0 0] 22) = W1 at *
        generalize wd.heap.size = bo at *
        refine ts_two ?_ ?_
        · refine now_run rfl (fun K hK => ?_)
          go_simp
          have HGS : w1.heap.size ≤ W1.heap.size := TT1.out.size
          have tx := (Turned.refl (fun _ => False) W1).alloc (.cells #[.int .u8 kind] 5)
          have OB2 := Lib.hid (OwnV.one W1 kind)
          have AA2 := Lib.hid (AA1.out.fresh tx)
          clear AA1
          have TT2 := Lib.hid (TT1.out.and_ tx)
          clear TT1
          have OX2 := Lib.hid (OX1.out.turned tx (fun e => e))
          clear OX1
          refine hK.out _ _ AA2.out ?_
          clear hK K tx
          generalize W1.alloc (.cells #[.int .u8 kind] 5) = W2 at *
          have hgs := Lib.hid (show w1.heap.size ≤ W1.heap.size from HGS)
          generalize W1.heap.size = gs at *
          refine ts_run rfl (fun K hK => ?_)
          go_simp
          refine (anum_any request 8 W2 (by omega) (by omega)).mono ?_
          rintro e W3 ⟨A2, c2, rfl, o2, g2, tx⟩
          have ON3 := Lib.hid o2
          clear o2 g2
          have AA3 := Lib.hid (AA2.out.fresh tx)
          clear AA2
          have TT3 := Lib.hid (TT2.out.and_ tx)
          clear TT2
          have OX3 := Lib.hid (OX2.out.turned tx (fun e => e))
          clear OX2
          have OB3 := Lib.hid (OB2.out.turned tx (fun _ _ e => e))
          clear OB2
          refine hK.out _ _ AA3.out ?_
          clear hK K tx
          refine ts_run rfl (fun K hK => ?_)
          refine wp_appB (.tmp 19) (.tmp 22) rfl OB3.out ON3.out (by rw [be_length]; omega) (by rw [be_length]; omega) rfl rfl ?_
          intro A4 c4 W4 ho4 hor4
          have hm4 := hor4.mine TT3.out (fun g e => by injection e with e; injection e with e; have := hgs.out; omega)
          have TT4 := Lib.hid hm4.1
          have G4 := Lib.hid hm4.2
          have OA4 := Lib.hid ho4
          have AA4 := Lib.hid (AA3.out.turned hor4.turned (fun e => OB3.out.blk AA3.out (by decide) e rfl))
          have OX4 := Lib.hid (OX3.out.turned hor4.turned (fun e => OB3.out.blk OX3.out (by decide) e rfl))
          clear ho4 hor4 hm4
          refine hK.out _ _ AA4.out ?_
          clear hK K
          try simp only [Act.put, List.setIfInBounds_toArray, List.set_cons_zero, List.set_cons_succ]
          refine ts_run rfl (fun K hK => ?_)
          have x8 := OX4.out.cell 0
          have f8 := OX4.out.frozen 0
          go_simp
          have nA : ∀ g, A4 = some ⟨g, 0, none⟩ → g ≠ bo := fun g e => OA4.out.blk OX4.out (by decide) e
          refine hK.out _ _ (Blk.far AA4.out (Blk.ne_ AA4.out OX4.out (by decide)) _) ?_
          clear hK K
          refine ts_nil ?_
          go_wp2_with fail
          go_meet
          have hX := OX4.out.set_ 0 (.slice A4 (1 + (be 8 request).length) c4)
          simp only [List.setIfInBounds_toArray, List.set_cons_zero] at hX
          exact ⟨bo, A4, c4, rfl, hX, OA4.out.far (fun e => nA _ e rfl) 0 _, GX.out, G4.out, TT4.out.setCell (.inr GX.out) _, Blk.far AA4.out (Blk.ne_ AA4.out OX4.out (by decide)) _⟩
        · refine now_run rfl (fun K hK => ?_)
          go_simp
          refine (anum_any request 8 W1 (by omega) (by omega)).mono ?_
          rintro e W2 ⟨A2, c2, rfl, o2, g2, tx⟩
          have ON2 := Lib.hid o2
          clear o2 g2
          have AA2 := Lib.hid (AA1.out.fresh tx)
          clear AA1
          have TT2 := Lib.hid (TT1.out.and_ tx)
          clear TT1
          have OX2 := Lib.hid (OX1.out.turned tx (fun e => e))
          clear OX1
          refine hK.out _ _ AA2.out ?_
          clear hK K tx
          refine ts_run rfl (fun K hK => ?_)
          go_simp
          have HGS : w1.heap.size ≤ W2.heap.size := TT2.out.size
          have tx := (Turned.refl (fun _ => False) W2).alloc (.cells #[.int .u8 kind] 5)
          have OB3 := Lib.hid (OwnV.one W2 kind)
          have AA3 := Lib.hid (AA2.out.fresh tx)
          clear AA2
          have TT3 := Lib.hid (TT2.out.and_ tx)
          clear TT2
          have OX3 := Lib.hid (OX2.out.turned tx (fun e => e))
          clear OX2
          have ON3 := Lib.hid (ON2.out.turned tx (fun _ _ e => e))
          clear ON2
          refine hK.out _ _ AA3.out ?_
          clear hK K tx
          generalize W2.alloc (.cells #[.int .u8 kind] 5) = W3 at *
          have hgs := Lib.hid (show w1.heap.size ≤ W2.heap.size from HGS)
          generalize W2.heap.size = gs at *
          refine ts_run rfl (fun K hK => ?_)
          refine wp_appB (.tmp 19) (.tmp 22) rfl OB3.out ON3.out (by rw [be_length]; omega) (by rw [be_length]; omega) rfl rfl ?_
          intro A4 c4 W4 ho4 hor4
          have hm4 := hor4.mine TT3.out (fun g e => by injection e with e; injection e with e; have := hgs.out; omega)
          have TT4 := Lib.hid hm4.1
          have G4 := Lib.hid hm4.2
          have OA4 := Lib.hid ho4
          have AA4 := Lib.hid (AA3.out.turned hor4.turned (fun e => OB3.out.blk AA3.out (by decide) e rfl))
          have OX4 := Lib.hid (OX3.out.turned hor4.turned (fun e => OB3.out.blk OX3.out (by decide) e rfl))
          clear ho4 hor4 hm4
          refine hK.out _ _ AA4.out ?_
          clear hK K
          try simp only [Act.put, List.setIfInBounds_toArray, List.set_cons_zero, List.set_cons_succ]
          refine ts_run rfl (fun K hK => ?_)
          have x8 := OX4.out.cell 0
          have f8 := OX4.out.frozen 0
          go_simp
          have nA : ∀ g, A4 = some ⟨g, 0, none⟩ → g ≠ bo := fun g e => OA4.out.blk OX4.out (by decide) e
          refine hK.out _ _ (Blk.far AA4.out (Blk.ne_ AA4.out OX4.out (by decide)) _) ?_
          clear hK K
          refine ts_nil ?_
          go_wp2_with fail
          go_meet
          have hX := OX4.out.set_ 0 (.slice A4 (1 + (be 8 request).length) c4)
          simp only [List.setIfInBounds_toArray, List.set_cons_zero] at hX
          exact ⟨bo, A4, c4, rfl, hX, OA4.out.far (fun e => nA _ e rfl) 0 _, GX.out, G4.out, TT4.out.setCell (.inr GX.out) _, Blk.far AA4.out (Blk.ne_ AA4.out OX4.out (by decide)) _⟩
    case rest =>
      obtain ⟨bo, A0, c0, rfl, hbx, hown, hbo, hge, tc, hac⟩ := hcut
      have TC := Lib.hid (T1.out.and_ tc)
      have hwbo0 := Lib.hid (Nat.le_trans T1.out.size hbo)
      have hwg := Lib.hid (fun g e => Nat.le_trans T1.out.size (hge g e))
      have k0 : wc.cell? ⟨ba, 0, none⟩ = some (.int .u8 kind) := hac.cell 0
      have X0 := Lib.hid hbx
      have Y0 := Lib.hid hown
      have C0 := Lib.hid hac
      clear A1 T1 hbx hown hge tc hac
      go_wp2_with fail
      refine (hF.out _ (hK'.out _ TC.out)).mono ?_
      rintro e w3 ⟨rfl, t3⟩
      have hk0 := World.iter_heap w3 (fBA f) 0
      have hl9 : 1 + (be 8 request).length = (headA ⟨kind, request, item, qty, day, days, rank, lot, line, parts, others⟩).length := by unfold headA; rw [List.length_append, be_length, be_length]
      have hz9 : [kind] ++ be 8 request = headA ⟨kind, request, item, qty, day, days, rank, lot, line, parts, others⟩ := by unfold headA; rw [hkb.out]
      have hwbi0 := Nat.le_trans TC.out.size t3.size
      have tI := (Turned.refl (fun _ => False) w3).alloc (.stringIter (fBA f) 0)
      have hst0 : PutRel ⟨kind, request, item, qty, day, days, rank, lot, line, parts, others⟩ ⟨⟨PA, Pn, Pc⟩, ⟨QA, On, Oc⟩⟩ f w ba bo w3.heap.size (w3.alloc (.stringIter (fBA f) 0)) := by
        refine ⟨0, A0, c0, Nat.zero_le _, (C0.out.fresh t3).fresh tI, ?_, ?_, hk0, hwg.out, (TC.out.and_ t3).alloc _⟩
        · have h5 := (X0.out.turned t3 (fun e => e)).turned tI (fun e => e)
          rw [hl9] at h5
          simpa using h5
        · have h5 := (Y0.out.turned t3 (fun _ _ e => e)).turned tI (fun _ _ e => e)
          rw [hl9, hz9] at h5
          simpa using h5
      have hst := Lib.hid hst0
      clear hst0 hk0 hl9 hz9 tI X0 Y0 C0 k0 t3 TC hwg hK' hF
      go_wp2_with fail
      have hwbo : w.heap.size ≤ bo := hwbo0.out
      have hwbi : w.heap.size ≤ w3.heap.size := hwbi0
      generalize hgi : w3.heap.size = bi at *
      clear hgi hwbo0 hwbi0
      go_loopw [9] (fun _ wr => PutRel ⟨kind, request, item, qty, day, days, rank, lot, line, parts, others⟩ ⟨⟨PA, Pn, Pc⟩, ⟨QA, On, Oc⟩⟩ f w ba bo bi wr) (fun _ wr => f.length - wr.iterPos bi)
      case atStart => exact hst.out
      case round =>
        obtain ⟨pos, A, c, hpl0, hW⟩ := hrel
        clear hst
        have hk := hW.it
        have hmu := Lib.hid hW.pos_
        have hW' := Lib.hid hW
        by_cases hp : pos < (fBA f).size
        · have hpl : pos < f.length := by rw [fBA_size] at hp; exact hp
          obtain ⟨k, hcm, hcv, htk0, h128⟩ := letter_at hfk hp
          have htk := Lib.hid htk0
          have hok0 := hokf.out k (by
            have : k ∈ f.take (pos + 1) := by rw [htk0]; simp
            exact List.mem_of_mem_take this)
          have hok := Lib.hid hok0
          have hnext : ∀ ty, (Instr.next (.pointer (some ⟨bi, 0, none⟩)) true ty).run Tryz.prog wr = _ := fun ty => Lib.run_next_ascii_at wr bi (fBA f) pos ty hk hp (by rw [hcv]; exact h128)
          generalize ((fBA f)[pos]'hp).toNat = k' at hnext hcv
          subst hcv
          have R1 := Lib.hid (hW.iter hwbi)
          generalize wr.iterAt bi (fBA f) (pos + 1) = W1 at hnext R1
          clear hk hW hW' htk0 hok0
          unfold letters at hcm
          simp only [List.mem_cons, List.not_mem_nil, or_false] at hcm
          rcases hcm with rfl | rfl | rfl | rfl | rfl | rfl | rfl | rfl | rfl
          · have hcd := Lib.hid (putL_code (show codeL item = true from hok.out))
            have hzl := so_far_len hfl hokf.out pos
            obtain ⟨zs, hzs⟩ : ∃ zs, zs = (headA ⟨kind, request, item, qty, day, days, rank, lot, line, parts, others⟩ ++ (f.take pos).flatMap (encF ⟨kind, request, item, qty, day, days, rank, lot, line, parts, others⟩)) := ⟨_, rfl⟩
            rw [← hzs] at R1 hzl
            have hZS := Lib.hid hzs
            clear hzs
            go_wp2_with fail
            refine wp_region_ts (fun w' => AskAt w' ba ⟨kind, request, item, qty, day, days, rank, lot, line, parts, others⟩ ⟨⟨PA, Pn, Pc⟩, ⟨QA, On, Oc⟩⟩) (tsT [1, 2] (.two 0 3 (tsF [3, 4, 5] .nil) (tsF [0, 4, 5] .nil))) mixed (by kernel_rfl) (fun _ _ _ _ _ h => h) ?_
            simp only [tsT, tsF, List.foldr_cons, List.foldr_nil, Ts.map, List.getElem?_cons_zero, List.getElem?_cons_succ]
            have DD := Lib.hid (R1.out.fresh ((Turned.refl (fun _ => False) W1).drew))
            have hS := DD.out.aa
            iterate 2 (refine ts_take (v := ?_) hS rfl (fun w' hw => ?_) ?_; rotate_left; (focus ((try (obtain ⟨c0, c1, c2, c3, c4, c5, c6, c7, c8, c9, c10⟩ := AskAt.cells hw; simp only at c0 c1 c2 c3 c4 c5 c6 c7 c8 c9 c10)); go_simp; (try with_reducible rfl); done)); try simp only [Act.put, List.setIfInBounds_toArray, List.set_cons_zero, List.set_cons_succ])
            obtain ⟨wd, hwd⟩ : ∃ wd, wd = W1.drew := ⟨_, rfl⟩
            rw [← hwd] at DD ⊢
            clear hwd hS R1
            have B0 := Lib.hid DD.out.box
            have O0 := Lib.hid DD.out.own
            refine ts_two ?_ ?_
            · refine now_run rfl (fun K hK => ?_)
              have x0 := B0.out.cell 0
              go_simp
              refine hK.out _ _ DD.out.aa ?_
              clear hK K
              clear x0
              refine ts_run rfl (fun K hK => ?_)
              go_simp
              refine (code_put_any item wd hItem).mono ?_
              rintro e w2 ⟨A2, c2, rfl, o2, g2, t2'⟩
              have O2 := Lib.hid o2
              have t2 := Lib.hid t2'
              clear o2 g2 t2'
              refine hK.out _ _ ((DD.out.fresh t2.out).aa) ?_
              clear hK K
              refine ts_run rfl (fun K hK => ?_)
              refine wp_appB (.tmp 39) (.tmp 42) rfl (O0.out.turned t2.out (fun _ _ e => e)) O2.out (by have := hcd.out; omega) (by have := hcd.out; omega) rfl rfl ?_
              intro A4 c4 w4 ho4 hor4
              have hx4 := (B0.out.turned t2.out (fun e => e)).turned hor4.turned (fun e => (O0.out.blk B0.out (by decide) e) rfl)
              have x4 := hx4.cell 0
              have f4 := hx4.frozen 0
              have OA := Lib.hid (OutAt.of B0.out O0.out t2.out ho4 hor4)
              have hor4T := Lib.hid hor4.turned
              clear hx4 ho4 hor4
              have E4 := Lib.hid (DD.out.out hwbo OA.out)
              have S4 := Lib.hid ((DD.out.fresh t2.out).aa.turned hor4T.out (fun e => (DD.out.own.blk DD.out.aa (by decide) e) rfl))
              refine hK.out _ _ S4.out ?_
              clear hK K
              try simp only [Act.put, List.setIfInBounds_toArray, List.set_cons_zero, List.set_cons_succ]
              refine ts_run rfl (fun K hK => ?_)
              go_simp
              refine hK.out _ _ (by obtain ⟨_, _, h5⟩ := E4.out; exact h5.aa) ?_
              clear hK K
              refine ts_nil ?_
              obtain ⟨A8, c8, R8⟩ := E4.out
              have F := PutRel.step (k := 105) hpl htk.out (by rw [hZS.out]; rfl) R8
              clear R8
              go_wp2_with fail
              exact ⟨F.1, by rw [hmu.out, F.2]; omega⟩
            · refine now_run rfl (fun K hK => ?_)
              go_simp
              refine (code_put_any item wd hItem).mono ?_
              rintro e w2 ⟨A2, c2, rfl, o2, g2, t2'⟩
              have O2 := Lib.hid o2
              have t2 := Lib.hid t2'
              clear o2 g2 t2'
              refine hK.out _ _ ((DD.out.fresh t2.out).aa) ?_
              clear hK K
              have x0 := (B0.out.turned t2.out (fun e => e)).cell 0
              refine ts_run rfl (fun K hK => ?_)
              go_simp
              refine hK.out _ _ ((DD.out.fresh t2.out).aa) ?_
              clear hK K
              clear x0
              refine ts_run rfl (fun K hK => ?_)
              refine wp_appB (.tmp 39) (.tmp 42) rfl (O0.out.turned t2.out (fun _ _ e => e)) O2.out (by have := hcd.out; omega) (by have := hcd.out; omega) rfl rfl ?_
              intro A4 c4 w4 ho4 hor4
              have hx4 := (B0.out.turned t2.out (fun e => e)).turned hor4.turned (fun e => (O0.out.blk B0.out (by decide) e) rfl)
              have x4 := hx4.cell 0
              have f4 := hx4.frozen 0
              have OA := Lib.hid (OutAt.of B0.out O0.out t2.out ho4 hor4)
              have hor4T := Lib.hid hor4.turned
              clear hx4 ho4 hor4
              have E4 := Lib.hid (DD.out.out hwbo OA.out)
              have S4 := Lib.hid ((DD.out.fresh t2.out).aa.turned hor4T.out (fun e => (DD.out.own.blk DD.out.aa (by decide) e) rfl))
              refine hK.out _ _ S4.out ?_
              clear hK K
              try simp only [Act.put, List.setIfInBounds_toArray, List.set_cons_zero, List.set_cons_succ]
              refine ts_run rfl (fun K hK => ?_)
              go_simp
              refine hK.out _ _ (by obtain ⟨_, _, h5⟩ := E4.out; exact h5.aa) ?_
              clear hK K
              refine ts_nil ?_
              obtain ⟨A8, c8, R8⟩ := E4.out
              have F := PutRel.step (k := 105) hpl htk.out (by rw [hZS.out]; rfl) R8
              clear R8
              go_wp2_with fail
              exact ⟨F.1, by rw [hmu.out, F.2]; omega⟩
          · have a0 : W1.cell? ⟨ba, 3, none⟩ = some (.int .i64 qty) := R1.out.aa.cell 3
            have hzl := so_far_len hfl hokf.out pos
            go_wp2_with fail
            refine (put1_any bo A c (headA ⟨kind, request, item, qty, day, days, rank, lot, line, parts, others⟩ ++ (f.take pos).flatMap (encF ⟨kind, request, item, qty, day, days, rank, lot, line, parts, others⟩)) qty 8 W1 R1.out.box R1.out.own (by omega) (by omega) (by omega)).mono ?_
            rintro e W2 ⟨rfl, OA⟩
            have F := Lib.hid (PutRel.outs (k := 113) hpl htk.out hwbo R1.out OA)
            clear OA
            go_wp2_with fail
            exact ⟨F.out.1, by rw [hmu.out, F.out.2]; omega⟩
          · have a0 : W1.cell? ⟨ba, 4, none⟩ = some (.int .i64 day) := R1.out.aa.cell 4
            have hzl := so_far_len hfl hokf.out pos
            go_wp2_with fail
            refine (put1_any bo A c (headA ⟨kind, request, item, qty, day, days, rank, lot, line, parts, others⟩ ++ (f.take pos).flatMap (encF ⟨kind, request, item, qty, day, days, rank, lot, line, parts, others⟩)) day 2 W1 R1.out.box R1.out.own (by omega) (by omega) (by omega)).mono ?_
            rintro e W2 ⟨rfl, OA⟩
            have F := Lib.hid (PutRel.outs (k := 100) hpl htk.out hwbo R1.out OA)
            clear OA
            go_wp2_with fail
            exact ⟨F.out.1, by rw [hmu.out, F.out.2]; omega⟩
          · have a0 : W1.cell? ⟨ba, 5, none⟩ = some (.int .i64 days) := R1.out.aa.cell 5
            have hzl := so_far_len hfl hokf.out pos
            go_wp2_with fail
            refine (put1_any bo A c (headA ⟨kind, request, item, qty, day, days, rank, lot, line, parts, others⟩ ++ (f.take pos).flatMap (encF ⟨kind, request, item, qty, day, days, rank, lot, line, parts, others⟩)) days 2 W1 R1.out.box R1.out.own (by omega) (by omega) (by omega)).mono ?_
            rintro e W2 ⟨rfl, OA⟩
            have F := Lib.hid (PutRel.outs (k := 108) hpl htk.out hwbo R1.out OA)
            clear OA
            go_wp2_with fail
            exact ⟨F.out.1, by rw [hmu.out, F.out.2]; omega⟩
          · have a0 : W1.cell? ⟨ba, 6, none⟩ = some (.int .i64 rank) := R1.out.aa.cell 6
            have hzl := so_far_len hfl hokf.out pos
            go_wp2_with fail
            refine (put1_any bo A c (headA ⟨kind, request, item, qty, day, days, rank, lot, line, parts, others⟩ ++ (f.take pos).flatMap (encF ⟨kind, request, item, qty, day, days, rank, lot, line, parts, others⟩)) rank 1 W1 R1.out.box R1.out.own (by omega) (by omega) (by omega)).mono ?_
            rintro e W2 ⟨rfl, OA⟩
            have F := Lib.hid (PutRel.outs (k := 114) hpl htk.out hwbo R1.out OA)
            clear OA
            go_wp2_with fail
            exact ⟨F.out.1, by rw [hmu.out, F.out.2]; omega⟩
          · have a0 : W1.cell? ⟨ba, 7, none⟩ = some (.int .i64 lot) := R1.out.aa.cell 7
            have hzl := so_far_len hfl hokf.out pos
            go_wp2_with fail
            refine (put1_any bo A c (headA ⟨kind, request, item, qty, day, days, rank, lot, line, parts, others⟩ ++ (f.take pos).flatMap (encF ⟨kind, request, item, qty, day, days, rank, lot, line, parts, others⟩)) lot 8 W1 R1.out.box R1.out.own (by omega) (by omega) (by omega)).mono ?_
            rintro e W2 ⟨rfl, OA⟩
            have F := Lib.hid (PutRel.outs (k := 116) hpl htk.out hwbo R1.out OA)
            clear OA
            go_wp2_with fail
            exact ⟨F.out.1, by rw [hmu.out, F.out.2]; omega⟩
          · have a0 : W1.cell? ⟨ba, 8, none⟩ = some (.int .i64 line) := R1.out.aa.cell 8
            have hzl := so_far_len hfl hokf.out pos
            go_wp2_with fail
            refine (put1_any bo A c (headA ⟨kind, request, item, qty, day, days, rank, lot, line, parts, others⟩ ++ (f.take pos).flatMap (encF ⟨kind, request, item, qty, day, days, rank, lot, line, parts, others⟩)) line 8 W1 R1.out.box R1.out.own (by omega) (by omega) (by omega)).mono ?_
            rintro e W2 ⟨rfl, OA⟩
            have F := Lib.hid (PutRel.outs (k := 110) hpl htk.out hwbo R1.out OA)
            clear OA
            go_wp2_with fail
            exact ⟨F.out.1, by rw [hmu.out, F.out.2]; omega⟩
          · have a0 : W1.cell? ⟨ba, 9, none⟩ = some (.slice PA Pn Pc) := R1.out.aa.cell 9
            have hzl := Lib.hid (so_far_len hfl hokf.out pos)
            have hll := Lib.hid (show parts.length = Pn from hPl.out)
            have hpb := Lib.hid (partsB_mem (show partsB parts = true from hok.out))
            have hn8 : Pn ≤ 8 := by have := hpb.out.2.1; rw [hll.out] at this; exact this
            go_wp2_with fail
            refine (put1_any bo A c (headA ⟨kind, request, item, qty, day, days, rank, lot, line, parts, others⟩ ++ (f.take pos).flatMap (encF ⟨kind, request, item, qty, day, days, rank, lot, line, parts, others⟩)) (Pn : Int) 1 W1 R1.out.box R1.out.own (by omega) (by omega) (by have := hzl.out; omega)).mono ?_
            rintro e W2 ⟨rfl, OA1⟩
            obtain ⟨A5, c5, R2⟩ := R1.out.out hwbo OA1
            rw [show be 1 (Pn : Int) = be 1 (parts.length : Int) from by rw [hll.out]] at R2
            have R2 := Lib.hid R2
            clear OA1 a0
            have a1 : W2.cell? ⟨ba, 9, none⟩ = some (.slice PA Pn Pc) := R2.out.aa.cell 9
            have hst : InRel ⟨kind, request, item, qty, day, days, rank, lot, line, parts, others⟩ ⟨⟨PA, Pn, Pc⟩, ⟨QA, On, Oc⟩⟩ f w ba bo bi (pos + 1) Pn (fun j => (headA ⟨kind, request, item, qty, day, days, rank, lot, line, parts, others⟩ ++ (f.take pos).flatMap (encF ⟨kind, request, item, qty, day, days, rank, lot, line, parts, others⟩)) ++ (be 1 (parts.length : Int) ++ (parts.take j).flatMap encP)) (.int .i64 0) W2 := ⟨0, A5, c5, Nat.zero_le _, rfl, by
                have := R2.out
                simpa using this⟩
            have hst := Lib.hid hst
            clear R2 R1
            go_wp2_with fail
            clear a1
            obtain ⟨wo, hwo⟩ : ∃ wo : World, wo = W2 := ⟨_, rfl⟩
            clear hwo wo
            go_loopw [90] (fun i wr => InRel ⟨kind, request, item, qty, day, days, rank, lot, line, parts, others⟩ ⟨⟨PA, Pn, Pc⟩, ⟨QA, On, Oc⟩⟩ f w ba bo bi (pos + 1) Pn (fun j => (headA ⟨kind, request, item, qty, day, days, rank, lot, line, parts, others⟩ ++ (f.take pos).flatMap (encF ⟨kind, request, item, qty, day, days, rank, lot, line, parts, others⟩)) ++ (be 1 (parts.length : Int) ++ (parts.take j).flatMap encP)) i wr) (fun i _ => Pn - (intOf i).toNat)
            case atStart => exact hst.out
            case round =>
              obtain ⟨j, A6, c6, hj, rfl, R6⟩ := hrel
              have R6 : PutW ⟨kind, request, item, qty, day, days, rank, lot, line, parts, others⟩ ⟨⟨PA, Pn, Pc⟩, ⟨QA, On, Oc⟩⟩ f w ba bo bi (pos + 1) A6 c6 ((headA ⟨kind, request, item, qty, day, days, rank, lot, line, parts, others⟩ ++ (f.take pos).flatMap (encF ⟨kind, request, item, qty, day, days, rank, lot, line, parts, others⟩)) ++ (be 1 (parts.length : Int) ++ (parts.take j).flatMap encP)) wr := R6
              have R6 := Lib.hid R6
              clear hst
              by_cases hlt : j < Pn
              · have hji : (j : Int) < (Pn : Int) := by omega
                have hzj : ((headA ⟨kind, request, item, qty, day, days, rank, lot, line, parts, others⟩ ++ (f.take pos).flatMap (encF ⟨kind, request, item, qty, day, days, rank, lot, line, parts, others⟩)) ++ (be 1 (parts.length : Int) ++ (parts.take j).flatMap encP)).length ≤ 2000 := by
                  have h1 := hzl.out
                  have h2 := flat_len encP 21 (parts.take j) (fun p hp => by have := (putL_code (hpb.out.2.2 p (List.mem_of_mem_take hp)).1).2; unfold encP; rw [List.length_append, be_length]; omega)
                  have h3 : (parts.take j).length ≤ 8 := by rw [List.length_take, hll.out]; omega
                  simp only [List.length_append, be_length] at h1 ⊢
                  omega
                obtain ⟨zs, hzs⟩ : ∃ zs, zs = (headA ⟨kind, request, item, qty, day, days, rank, lot, line, parts, others⟩ ++ (f.take pos).flatMap (encF ⟨kind, request, item, qty, day, days, rank, lot, line, parts, others⟩)) ++ (be 1 (parts.length : Int) ++ (parts.take j).flatMap encP) := ⟨_, rfl⟩
                rw [← hzs] at R6
                have hzj2 := hzj
                rw [← hzs] at hzj2
                have hZS := Lib.hid hzs
                have hzj := Lib.hid hzj2
                clear hzs hzj2
                obtain ⟨b, off, hA, hcell⟩ := (hIs.out.fresh R6.out.t).parts.cells (show 0 < Pn by omega)
                simp only at hA
                subst hA
                obtain ⟨q0, q1⟩ := hcell j hlt
                unfold strV at q0
                have hsn := Lib.hid (take_snocD parts j (by rw [hll.out]; exact hlt))
                have hmem := Lib.hid (hpb.out.2.2 (parts.getD j ([], 0)) (by rw [List.getD_eq_getElem?_getD, List.getElem?_eq_getElem (by rw [hll.out]; exact hlt)]; exact List.getElem_mem _))
                have hcd := Lib.hid (putL_code (show codeL (itemAt parts j) = true from hmem.out.1))
                have hio := Lib.hid (show strOk (itemAt parts j) from hPo _ (by rw [List.getD_eq_getElem?_getD, List.getElem?_eq_getElem (by rw [hll.out]; exact hlt)]; exact List.getElem_mem _))
                clear hcell hmem
                generalize itemAt parts j = iv at *
                generalize qtyAt parts j = qv at *
                go_wp2_with fail
                have BP := Lib.hid (Blk.new wr 55 #[.string ⟨iv.toArray⟩, .int .i64 qv])
                have R7 := Lib.hid (R6.out.fresh ((Turned.refl (fun _ => False) wr).alloc (.cells #[.string ⟨iv.toArray⟩, .int .i64 qv] 55)))
                clear R6 q0 q1
                generalize wr.alloc (.cells #[.string ⟨iv.toArray⟩, .int .i64 qv] 55) = W7 at *
                generalize wr.heap.size = bp at *
                refine wp_region_ts (fun w' => Blk w' bp 55 #[.string ⟨iv.toArray⟩, .int .i64 qv]) (tsT [1, 2] (.two 0 3 (tsF [3, 4, 5] .nil) (tsF [0, 4, 5] .nil))) mixed (by kernel_rfl) (fun _ _ _ _ _ h => h) ?_
                simp only [tsT, tsF, List.foldr_cons, List.foldr_nil, Ts.map, List.getElem?_cons_zero, List.getElem?_cons_succ]
                have DD := Lib.hid (R7.out.fresh ((Turned.refl (fun _ => False) W7).drew))
                have hS := BP.out.drew
                iterate 2 (refine ts_take (v := ?_) hS rfl (fun w' hw => ?_) ?_; rotate_left; (focus ((try (have p0 := Blk.cell hw 0; have p1 := Blk.cell hw 1; simp only [List.getElem?_toArray, List.getElem?_cons_succ, List.getElem?_cons_zero] at p0 p1)); go_simp; (try with_reducible rfl); done)); try simp only [Act.put, List.setIfInBounds_toArray, List.set_cons_zero, List.set_cons_succ])
                have BD := Lib.hid hS
                obtain ⟨wd, hwd⟩ : ∃ wd, wd = W7.drew := ⟨_, rfl⟩
                rw [← hwd] at DD BD ⊢
                clear hwd hS R7 BP
                have B0 := Lib.hid DD.out.box
                have O0 := Lib.hid DD.out.own
                refine ts_two ?_ ?_
                · refine now_run rfl (fun K hK => ?_)
                  have x0 := B0.out.cell 0
                  go_simp
                  refine hK.out _ _ BD.out ?_
                  clear hK K
                  clear x0
                  refine ts_run rfl (fun K hK => ?_)
                  go_simp
                  refine (code_put_any iv wd hio.out).mono ?_
                  rintro e w2 ⟨A2, c2, rfl, o2, g2, t2'⟩
                  have O2 := Lib.hid o2
                  have t2 := Lib.hid t2'
                  clear o2 g2 t2'
                  refine hK.out _ _ (BD.out.turned t2.out (fun e => e)) ?_
                  clear hK K
                  refine ts_run rfl (fun K hK => ?_)
                  refine wp_appB (.tmp 94) (.tmp 97) rfl (O0.out.turned t2.out (fun _ _ e => e)) O2.out (by have h1 := hzj.out; have h2 := hcd.out; omega) (by have h1 := hzj.out; have h2 := hcd.out; omega) rfl rfl ?_
                  intro A4 c4 w4 ho4 hor4
                  have hx4 := (B0.out.turned t2.out (fun e => e)).turned hor4.turned (fun e => (O0.out.blk B0.out (by decide) e) rfl)
                  have x4 := hx4.cell 0
                  have f4 := hx4.frozen 0
                  have OA := Lib.hid (OutAt.of B0.out O0.out t2.out ho4 hor4)
                  have hor4T := Lib.hid hor4.turned
                  clear hx4 ho4 hor4
                  have E4 := Lib.hid (DD.out.out hwbo OA.out)
                  have S4 := Lib.hid ((BD.out.turned t2.out (fun e => e)).turned hor4T.out (fun e => (DD.out.own.blk BD.out (by decide) e) rfl))
                  skip
                  refine hK.out _ _ S4.out ?_
                  clear hK K
                  try simp only [Act.put, List.setIfInBounds_toArray, List.set_cons_zero, List.set_cons_succ]
                  refine ts_run rfl (fun K hK => ?_)
                  go_simp
                  refine hK.out _ _ (S4.out.far (Blk.ne_ BD.out DD.out.box (by decide)) _) ?_
                  clear hK K
                  refine ts_nil ?_
                  have S5 := Blk.far (p := ⟨bo, 0, none⟩) S4.out (Blk.ne_ BD.out DD.out.box (by decide)) (.slice A4 (zs.length + (putL iv).length) c4)
                  obtain ⟨A8, c8, R8⟩ := E4.out
                  have R8 := Lib.hid R8
                  have p1 := S5.cell 1
                  simp only [List.getElem?_toArray, List.getElem?_cons_succ, List.getElem?_cons_zero] at p1
                  clear E4 OA S4 S5 x4 f4
                  generalize w4.setCell ⟨bo, 0, none⟩ (.slice A4 (zs.length + (putL iv).length) c4) = W8 at *
                  go_wp2_with fail
                  refine (put1_any bo A8 c8 (zs ++ putL iv) qv 8 W8 R8.out.box R8.out.own (by omega) (by omega) (by have h1 := hzj.out; have h2 := hcd.out; rw [List.length_append]; omega)).mono ?_
                  rintro e W9 ⟨rfl, OB⟩
                  obtain ⟨A9, c9, R9⟩ := R8.out.out hwbo OB
                  have FI := Lib.hid (show InRel ⟨kind, request, item, qty, day, days, rank, lot, line, parts, others⟩ ⟨⟨some ⟨b, off, none⟩, Pn, Pc⟩, ⟨QA, On, Oc⟩⟩ f w ba bo bi (pos + 1) Pn (fun j => (headA ⟨kind, request, item, qty, day, days, rank, lot, line, parts, others⟩ ++ (f.take pos).flatMap (encF ⟨kind, request, item, qty, day, days, rank, lot, line, parts, others⟩)) ++ (be 1 (parts.length : Int) ++ (parts.take j).flatMap encP)) (.int .i64 ((j + 1 : Nat) : Int)) W9 from ⟨j + 1, A9, c9, hlt, rfl, by
                    show PutW _ _ _ _ _ _ _ _ _ _ ((headA ⟨kind, request, item, qty, day, days, rank, lot, line, parts, others⟩ ++ (f.take pos).flatMap (encF ⟨kind, request, item, qty, day, days, rank, lot, line, parts, others⟩)) ++ (be 1 (parts.length : Int) ++ (parts.take (j + 1)).flatMap encP)) _
                    rw [hsn.out, List.flatMap_append]
                    have h5 := R9
                    rw [hZS.out] at h5
                    simp only [List.append_assoc, List.flatMap_cons, List.flatMap_nil, List.append_nil, encP] at h5 ⊢
                    exact h5⟩)
                  clear OB R9
                  go_wp2_with fail
                  go_roundw
                  case rel =>
                    first
                    | exact FI.out
                    | ((repeat apply Exists.intro); exact ⟨FI.out, rfl⟩)
                  case measure => simp [intOf]; omega
                · refine now_run rfl (fun K hK => ?_)
                  go_simp
                  refine (code_put_any iv wd hio.out).mono ?_
                  rintro e w2 ⟨A2, c2, rfl, o2, g2, t2'⟩
                  have O2 := Lib.hid o2
                  have t2 := Lib.hid t2'
                  clear o2 g2 t2'
                  refine hK.out _ _ (BD.out.turned t2.out (fun e => e)) ?_
                  clear hK K
                  have x0 := (B0.out.turned t2.out (fun e => e)).cell 0
                  refine ts_run rfl (fun K hK => ?_)
                  go_simp
                  refine hK.out _ _ (BD.out.turned t2.out (fun e => e)) ?_
                  clear hK K
                  clear x0
                  refine ts_run rfl (fun K hK => ?_)
                  refine wp_appB (.tmp 94) (.tmp 97) rfl (O0.out.turned t2.out (fun _ _ e => e)) O2.out (by have h1 := hzj.out; have h2 := hcd.out; omega) (by have h1 := hzj.out; have h2 := hcd.out; omega) rfl rfl ?_
                  intro A4 c4 w4 ho4 hor4
                  have hx4 := (B0.out.turned t2.out (fun e => e)).turned hor4.turned (fun e => (O0.out.blk B0.out (by decide) e) rfl)
                  have x4 := hx4.cell 0
                  have f4 := hx4.frozen 0
                  have OA := Lib.hid (OutAt.of B0.out O0.out t2.out ho4 hor4)
                  have hor4T := Lib.hid hor4.turned
                  clear hx4 ho4 hor4
                  have E4 := Lib.hid (DD.out.out hwbo OA.out)
                  have S4 := Lib.hid ((BD.out.turned t2.out (fun e => e)).turned hor4T.out (fun e => (DD.out.own.blk BD.out (by decide) e) rfl))
                  skip
                  refine hK.out _ _ S4.out ?_
                  clear hK K
                  try simp only [Act.put, List.setIfInBounds_toArray, List.set_cons_zero, List.set_cons_succ]
                  refine ts_run rfl (fun K hK => ?_)
                  go_simp
                  refine hK.out _ _ (S4.out.far (Blk.ne_ BD.out DD.out.box (by decide)) _) ?_
                  clear hK K
                  refine ts_nil ?_
                  have S5 := Blk.far (p := ⟨bo, 0, none⟩) S4.out (Blk.ne_ BD.out DD.out.box (by decide)) (.slice A4 (zs.length + (putL iv).length) c4)
                  obtain ⟨A8, c8, R8⟩ := E4.out
                  have R8 := Lib.hid R8
                  have p1 := S5.cell 1
                  simp only [List.getElem?_toArray, List.getElem?_cons_succ, List.getElem?_cons_zero] at p1
                  clear E4 OA S4 S5 x4 f4
                  generalize w4.setCell ⟨bo, 0, none⟩ (.slice A4 (zs.length + (putL iv).length) c4) = W8 at *
                  go_wp2_with fail
                  refine (put1_any bo A8 c8 (zs ++ putL iv) qv 8 W8 R8.out.box R8.out.own (by omega) (by omega) (by have h1 := hzj.out; have h2 := hcd.out; rw [List.length_append]; omega)).mono ?_
                  rintro e W9 ⟨rfl, OB⟩
                  obtain ⟨A9, c9, R9⟩ := R8.out.out hwbo OB
                  have FI := Lib.hid (show InRel ⟨kind, request, item, qty, day, days, rank, lot, line, parts, others⟩ ⟨⟨some ⟨b, off, none⟩, Pn, Pc⟩, ⟨QA, On, Oc⟩⟩ f w ba bo bi (pos + 1) Pn (fun j => (headA ⟨kind, request, item, qty, day, days, rank, lot, line, parts, others⟩ ++ (f.take pos).flatMap (encF ⟨kind, request, item, qty, day, days, rank, lot, line, parts, others⟩)) ++ (be 1 (parts.length : Int) ++ (parts.take j).flatMap encP)) (.int .i64 ((j + 1 : Nat) : Int)) W9 from ⟨j + 1, A9, c9, hlt, rfl, by
                    show PutW _ _ _ _ _ _ _ _ _ _ ((headA ⟨kind, request, item, qty, day, days, rank, lot, line, parts, others⟩ ++ (f.take pos).flatMap (encF ⟨kind, request, item, qty, day, days, rank, lot, line, parts, others⟩)) ++ (be 1 (parts.length : Int) ++ (parts.take (j + 1)).flatMap encP)) _
                    rw [hsn.out, List.flatMap_append]
                    have h5 := R9
                    rw [hZS.out] at h5
                    simp only [List.append_assoc, List.flatMap_cons, List.flatMap_nil, List.append_nil, encP] at h5 ⊢
                    exact h5⟩)
                  clear OB R9
                  go_wp2_with fail
                  go_roundw
                  case rel =>
                    first
                    | exact FI.out
                    | ((repeat apply Exists.intro); exact ⟨FI.out, rfl⟩)
                  case measure => simp [intOf]; omega
              · have hge : (Pn : Int) ≤ (j : Int) := by omega
                have htl := Lib.hid (show parts.take j = parts from List.take_of_length_le (by rw [hll.out]; omega))
                have F := Lib.hid (PutRel.step (k := 112) hpl htk.out (by
                  show (headA ⟨kind, request, item, qty, day, days, rank, lot, line, parts, others⟩ ++ (f.take pos).flatMap (encF ⟨kind, request, item, qty, day, days, rank, lot, line, parts, others⟩)) ++ (be 1 (parts.length : Int) ++ (parts.take j).flatMap encP) = _
                  rw [htl.out]
                  rfl) R6.out)
                go_wp2_with fail
                exact ⟨F.out.1, by rw [hmu.out, F.out.2]; omega⟩
          · have a0 : W1.cell? ⟨ba, 10, none⟩ = some (.slice QA On Oc) := R1.out.aa.cell 10
            have hzl := Lib.hid (so_far_len hfl hokf.out pos)
            have hll := Lib.hid (show others.length = On from hOl.out)
            have hob := Lib.hid (othersB_mem (show othersB others item = true from hok.out))
            have hn8 : On ≤ 8 := by have := hob.out.1; rw [hll.out] at this; omega
            go_wp2_with fail
            refine (put1_any bo A c (headA ⟨kind, request, item, qty, day, days, rank, lot, line, parts, others⟩ ++ (f.take pos).flatMap (encF ⟨kind, request, item, qty, day, days, rank, lot, line, parts, others⟩)) (On : Int) 1 W1 R1.out.box R1.out.own (by omega) (by omega) (by have := hzl.out; omega)).mono ?_
            rintro e W2 ⟨rfl, OA1⟩
            obtain ⟨A5, c5, R2⟩ := R1.out.out hwbo OA1
            rw [show be 1 (On : Int) = be 1 (others.length : Int) from by rw [hll.out]] at R2
            have R2 := Lib.hid R2
            clear OA1 a0
            have a1 : W2.cell? ⟨ba, 10, none⟩ = some (.slice QA On Oc) := R2.out.aa.cell 10
            have hst : InRel ⟨kind, request, item, qty, day, days, rank, lot, line, parts, others⟩ ⟨⟨PA, Pn, Pc⟩, ⟨QA, On, Oc⟩⟩ f w ba bo bi (pos + 1) On (fun j => (headA ⟨kind, request, item, qty, day, days, rank, lot, line, parts, others⟩ ++ (f.take pos).flatMap (encF ⟨kind, request, item, qty, day, days, rank, lot, line, parts, others⟩)) ++ (be 1 (others.length : Int) ++ (others.take j).flatMap putL)) (.int .i64 0) W2 := ⟨0, A5, c5, Nat.zero_le _, rfl, by
                have := R2.out
                simpa using this⟩
            have hst := Lib.hid hst
            clear R2 R1
            go_wp2_with fail
            clear a1
            obtain ⟨wo, hwo⟩ : ∃ wo : World, wo = W2 := ⟨_, rfl⟩
            clear hwo wo
            go_loopw [114] (fun i wr => InRel ⟨kind, request, item, qty, day, days, rank, lot, line, parts, others⟩ ⟨⟨PA, Pn, Pc⟩, ⟨QA, On, Oc⟩⟩ f w ba bo bi (pos + 1) On (fun j => (headA ⟨kind, request, item, qty, day, days, rank, lot, line, parts, others⟩ ++ (f.take pos).flatMap (encF ⟨kind, request, item, qty, day, days, rank, lot, line, parts, others⟩)) ++ (be 1 (others.length : Int) ++ (others.take j).flatMap putL)) i wr) (fun i _ => On - (intOf i).toNat)
            case atStart => exact hst.out
            case round =>
              obtain ⟨j, A6, c6, hj, rfl, R6⟩ := hrel
              have R6 : PutW ⟨kind, request, item, qty, day, days, rank, lot, line, parts, others⟩ ⟨⟨PA, Pn, Pc⟩, ⟨QA, On, Oc⟩⟩ f w ba bo bi (pos + 1) A6 c6 ((headA ⟨kind, request, item, qty, day, days, rank, lot, line, parts, others⟩ ++ (f.take pos).flatMap (encF ⟨kind, request, item, qty, day, days, rank, lot, line, parts, others⟩)) ++ (be 1 (others.length : Int) ++ (others.take j).flatMap putL)) wr := R6
              have R6 := Lib.hid R6
              clear hst
              by_cases hlt : j < On
              · have hji : (j : Int) < (On : Int) := by omega
                have hzj : ((headA ⟨kind, request, item, qty, day, days, rank, lot, line, parts, others⟩ ++ (f.take pos).flatMap (encF ⟨kind, request, item, qty, day, days, rank, lot, line, parts, others⟩)) ++ (be 1 (others.length : Int) ++ (others.take j).flatMap putL)).length ≤ 2000 := by
                  have h1 := hzl.out
                  have h2 := flat_len putL 13 (others.take j) (fun p hp => (putL_code (hob.out.2 p (List.mem_of_mem_take hp))).2)
                  have h3 : (others.take j).length ≤ 8 := by rw [List.length_take, hll.out]; omega
                  simp only [List.length_append, be_length] at h1 ⊢
                  omega
                obtain ⟨zs, hzs⟩ : ∃ zs, zs = (headA ⟨kind, request, item, qty, day, days, rank, lot, line, parts, others⟩ ++ (f.take pos).flatMap (encF ⟨kind, request, item, qty, day, days, rank, lot, line, parts, others⟩)) ++ (be 1 (others.length : Int) ++ (others.take j).flatMap putL) := ⟨_, rfl⟩
                rw [← hzs] at R6
                have hzj2 := hzj
                rw [← hzs] at hzj2
                have hZS := Lib.hid hzs
                have hzj := Lib.hid hzj2
                clear hzs hzj2
                obtain ⟨b, off, hA, hcell⟩ := (hIs.out.fresh R6.out.t).others.cells (show 0 < On by omega)
                simp only at hA
                subst hA
                have q0 := hcell j hlt
                unfold strV at q0
                have hsn := Lib.hid (show others.take (j + 1) = others.take j ++ [others.getD j []] from by
                  rw [List.take_succ_eq_append_getElem (by rw [hll.out]; exact hlt), List.getD_eq_getElem?_getD, List.getElem?_eq_getElem (by rw [hll.out]; exact hlt)]
                  rfl)
                have hcd := Lib.hid (putL_code (hob.out.2 (others.getD j []) (by rw [List.getD_eq_getElem?_getD, List.getElem?_eq_getElem (by rw [hll.out]; exact hlt)]; exact List.getElem_mem _)))
                have hio := Lib.hid (hOo (others.getD j []) (by rw [List.getD_eq_getElem?_getD, List.getElem?_eq_getElem (by rw [hll.out]; exact hlt)]; exact List.getElem_mem _))
                clear hcell
                generalize others.getD j [] = iv at *
                go_wp2_with fail
                refine wp_region_ts (fun _ => True) (tsT [1] (.two 0 2 (tsF [2, 3, 4] .nil) (tsF [0, 3, 4] .nil))) mixed (by kernel_rfl) (fun _ _ _ _ _ h => h) ?_
                simp only [tsT, tsF, List.foldr_cons, List.foldr_nil, Ts.map, List.getElem?_cons_zero, List.getElem?_cons_succ]
                have DD := Lib.hid (R6.out.fresh ((Turned.refl (fun _ => False) wr).drew))
                (refine ts_take (v := ?_) trivial rfl (fun w' hw => ?_) ?_; rotate_left; (focus (go_simp; (try with_reducible rfl); done)); try simp only [Act.put, List.setIfInBounds_toArray, List.set_cons_zero, List.set_cons_succ])
                obtain ⟨wd, hwd⟩ : ∃ wd, wd = wr.drew := ⟨_, rfl⟩
                rw [← hwd] at DD ⊢
                clear hwd R6
                have B0 := Lib.hid DD.out.box
                have O0 := Lib.hid DD.out.own
                refine ts_two ?_ ?_
                · refine now_run rfl (fun K hK => ?_)
                  have x0 := B0.out.cell 0
                  go_simp
                  refine hK.out _ _ trivial ?_
                  clear hK K
                  clear x0
                  refine ts_run rfl (fun K hK => ?_)
                  go_simp
                  refine (code_put_any iv wd hio.out).mono ?_
                  rintro e w2 ⟨A2, c2, rfl, o2, g2, t2'⟩
                  have O2 := Lib.hid o2
                  have t2 := Lib.hid t2'
                  clear o2 g2 t2'
                  refine hK.out _ _ trivial ?_
                  clear hK K
                  refine ts_run rfl (fun K hK => ?_)
                  refine wp_appB (.tmp 118) (.tmp 120) rfl (O0.out.turned t2.out (fun _ _ e => e)) O2.out (by have h1 := hzj.out; have h2 := hcd.out; omega) (by have h1 := hzj.out; have h2 := hcd.out; omega) rfl rfl ?_
                  intro A4 c4 w4 ho4 hor4
                  have hx4 := (B0.out.turned t2.out (fun e => e)).turned hor4.turned (fun e => (O0.out.blk B0.out (by decide) e) rfl)
                  have x4 := hx4.cell 0
                  have f4 := hx4.frozen 0
                  have OA := Lib.hid (OutAt.of B0.out O0.out t2.out ho4 hor4)
                  clear hx4 ho4 hor4
                  refine hK.out _ _ trivial ?_
                  clear hK K
                  try simp only [Act.put, List.setIfInBounds_toArray, List.set_cons_zero, List.set_cons_succ]
                  refine ts_run rfl (fun K hK => ?_)
                  go_simp
                  refine hK.out _ _ trivial ?_
                  clear hK K
                  refine ts_nil ?_
                  obtain ⟨A9, c9, R9⟩ := DD.out.out hwbo OA.out
                  clear OA x4 f4
                  generalize w4.setCell ⟨bo, 0, none⟩ (.slice A4 (zs.length + (putL iv).length) c4) = W8 at *
                  have FI := Lib.hid (show InRel ⟨kind, request, item, qty, day, days, rank, lot, line, parts, others⟩ ⟨⟨PA, Pn, Pc⟩, ⟨some ⟨b, off, none⟩, On, Oc⟩⟩ f w ba bo bi (pos + 1) On (fun j => (headA ⟨kind, request, item, qty, day, days, rank, lot, line, parts, others⟩ ++ (f.take pos).flatMap (encF ⟨kind, request, item, qty, day, days, rank, lot, line, parts, others⟩)) ++ (be 1 (others.length : Int) ++ (others.take j).flatMap putL)) (.int .i64 ((j + 1 : Nat) : Int)) W8 from ⟨j + 1, A9, c9, hlt, rfl, by
                    show PutW _ _ _ _ _ _ _ _ _ _ ((headA ⟨kind, request, item, qty, day, days, rank, lot, line, parts, others⟩ ++ (f.take pos).flatMap (encF ⟨kind, request, item, qty, day, days, rank, lot, line, parts, others⟩)) ++ (be 1 (others.length : Int) ++ (others.take (j + 1)).flatMap putL)) _
                    rw [hsn.out, List.flatMap_append]
                    have h5 := R9
                    rw [hZS.out] at h5
                    simp only [List.append_assoc, List.flatMap_cons, List.flatMap_nil, List.append_nil] at h5 ⊢
                    exact h5⟩)
                  clear R9
                  go_wp2_with fail
                  go_roundw
                  case rel =>
                    first
                    | exact FI.out
                    | ((repeat apply Exists.intro); exact ⟨FI.out, rfl⟩)
                  case measure => simp [intOf]; omega
                · refine now_run rfl (fun K hK => ?_)
                  go_simp
                  refine (code_put_any iv wd hio.out).mono ?_
                  rintro e w2 ⟨A2, c2, rfl, o2, g2, t2'⟩
                  have O2 := Lib.hid o2
                  have t2 := Lib.hid t2'
                  clear o2 g2 t2'
                  refine hK.out _ _ trivial ?_
                  clear hK K
                  have x0 := (B0.out.turned t2.out (fun e => e)).cell 0
                  refine ts_run rfl (fun K hK => ?_)
                  go_simp
                  refine hK.out _ _ trivial ?_
                  clear hK K
                  clear x0
                  refine ts_run rfl (fun K hK => ?_)
                  refine wp_appB (.tmp 118) (.tmp 120) rfl (O0.out.turned t2.out (fun _ _ e => e)) O2.out (by have h1 := hzj.out; have h2 := hcd.out; omega) (by have h1 := hzj.out; have h2 := hcd.out; omega) rfl rfl ?_
                  intro A4 c4 w4 ho4 hor4
                  have hx4 := (B0.out.turned t2.out (fun e => e)).turned hor4.turned (fun e => (O0.out.blk B0.out (by decide) e) rfl)
                  have x4 := hx4.cell 0
                  have f4 := hx4.frozen 0
                  have OA := Lib.hid (OutAt.of B0.out O0.out t2.out ho4 hor4)
                  clear hx4 ho4 hor4
                  refine hK.out _ _ trivial ?_
                  clear hK K
                  try simp only [Act.put, List.setIfInBounds_toArray, List.set_cons_zero, List.set_cons_succ]
                  refine ts_run rfl (fun K hK => ?_)
                  go_simp
                  refine hK.out _ _ trivial ?_
                  clear hK K
                  refine ts_nil ?_
                  obtain ⟨A9, c9, R9⟩ := DD.out.out hwbo OA.out
                  clear OA x4 f4
                  generalize w4.setCell ⟨bo, 0, none⟩ (.slice A4 (zs.length + (putL iv).length) c4) = W8 at *
                  have FI := Lib.hid (show InRel ⟨kind, request, item, qty, day, days, rank, lot, line, parts, others⟩ ⟨⟨PA, Pn, Pc⟩, ⟨some ⟨b, off, none⟩, On, Oc⟩⟩ f w ba bo bi (pos + 1) On (fun j => (headA ⟨kind, request, item, qty, day, days, rank, lot, line, parts, others⟩ ++ (f.take pos).flatMap (encF ⟨kind, request, item, qty, day, days, rank, lot, line, parts, others⟩)) ++ (be 1 (others.length : Int) ++ (others.take j).flatMap putL)) (.int .i64 ((j + 1 : Nat) : Int)) W8 from ⟨j + 1, A9, c9, hlt, rfl, by
                    show PutW _ _ _ _ _ _ _ _ _ _ ((headA ⟨kind, request, item, qty, day, days, rank, lot, line, parts, others⟩ ++ (f.take pos).flatMap (encF ⟨kind, request, item, qty, day, days, rank, lot, line, parts, others⟩)) ++ (be 1 (others.length : Int) ++ (others.take (j + 1)).flatMap putL)) _
                    rw [hsn.out, List.flatMap_append]
                    have h5 := R9
                    rw [hZS.out] at h5
                    simp only [List.append_assoc, List.flatMap_cons, List.flatMap_nil, List.append_nil] at h5 ⊢
                    exact h5⟩)
                  clear R9
                  go_wp2_with fail
                  go_roundw
                  case rel =>
                    first
                    | exact FI.out
                    | ((repeat apply Exists.intro); exact ⟨FI.out, rfl⟩)
                  case measure => simp [intOf]; omega
              · have hge : (On : Int) ≤ (j : Int) := by omega
                have htl := Lib.hid (show others.take j = others from List.take_of_length_le (by rw [hll.out]; omega))
                have F := Lib.hid (PutRel.step (k := 111) hpl htk.out (by
                  show (headA ⟨kind, request, item, qty, day, days, rank, lot, line, parts, others⟩ ++ (f.take pos).flatMap (encF ⟨kind, request, item, qty, day, days, rank, lot, line, parts, others⟩)) ++ (be 1 (others.length : Int) ++ (others.take j).flatMap putL) = _
                  rw [htl.out]
                  rfl) R6.out)
                go_wp2_with fail
                exact ⟨F.out.1, by rw [hmu.out, F.out.2]; omega⟩
        · have hnext : ∀ ty, (Instr.next (.pointer (some ⟨bi, 0, none⟩)) true ty).run Tryz.prog wr = _ := fun ty => Lib.run_next_end_at wr bi (fBA f) pos ty hk hp
          have hpe : pos = f.length := by rw [fBA_size] at hp; omega
          have htf : f.take pos = f := List.take_of_length_le (by omega)
          rw [htf, ← hpA.out] at hW'
          have b0 := hW'.out.box.cell 0
          simp only [List.getElem?_toArray, List.getElem?_cons_zero] at b0
          clear hk hW htf
          go_wp2_with fail
          go_ret2
          exact ⟨A, c, rfl, hW'.out.own, hW'.out.ge, hW'.out.t⟩
end Go.Proofs.YtijmfglgeaaoaaaGreatDoor

