/-
  The document's Put (storemanref13): a command's bytes. No condition but numbers.
-/
import Derived.Test.YtijmfglgeaaoaaaGreatDoorQAskD
import Derived.Test.YtijmfglgeaaoaaaGreatDoorQAskE
import Derived.Deep.CutRange
namespace Go.Proofs.YtijmfglgeaaoaaaGreatDoor
open Go.RowKit Go.Maps
set_option linter.unusedVariables false
set_option linter.unusedSimpArgs false

theorem rcode_put_any (x : List UInt8) (w : World) (h : strOk x) : Calls Tryz.prog 91 #[.string ⟨x.toArray⟩] w (PutPost (putL x) w) := rput_any (baOf x) w (by
  show x.toArray.size ≤ _
  unfold strOk at h
  simpa using h)
theorem slQ_snd {w w' : World} {b off n c : Nat} {l : List (List UInt8 × Int)} (h : SlQ w ⟨some ⟨b, off, none⟩, n, c⟩ l) (t : Turned (fun _ => False) w w') {j : Nat} (hj : j < n) : w'.cell? ⟨b, off + j * 2 + 1, none⟩ = some (.int .i64 (qtyAt l j)) := by
  obtain ⟨b2, o2, hA2, hc2⟩ := (h.fresh t).cells (show 0 < n by omega)
  simp only at hA2
  injection hA2 with hA2
  injection hA2 with e1 e2
  subst e1 e2
  exact (hc2 j hj).2
theorem be1_byte2 {k : Int} (h : isByte k) : be 1 k = [k] := by
  rw [be1_mod]
  unfold isByte at h
  congr 1
  omega
set_option maxRecDepth 100000 in
set_option maxHeartbeats 16000000 in
theorem rask_put_any (a : AskV) (S : AskS) (w : World) (hI : AskIs w a S) (hOk : a.Ok) : Calls Tryz.prog 39 #[.agg (askC a S)] w (APut a w) := by
  have mixed : Tryz.prog.follows .mixedOrders = true := by kernel_rfl
  have hF := Lib.hid (fun (w' : World) => rfields_any a.kind w' hOk.kind)
  have hR := Lib.hid (fun (w' : World) (ht : Turned (fun _ => False) w w') => rright13_any a S w' (hI.fresh ht) hOk)
  have hkb := Lib.hid (be1_byte2 hOk.kind)
  unfold APut
  have hIs := Lib.hid hI
  have hNum := Lib.hid (And.intro hOk.qty (And.intro hOk.day (And.intro hOk.days (And.intro hOk.rank (And.intro hOk.lot hOk.line)))))
  have hreq := Lib.hid hOk.request
  obtain ⟨kind, request, item, qty, day, days, rank, lot, line, parts, others⟩ := a
  obtain ⟨⟨PA, Pn, Pc⟩, ⟨QA, On, Oc⟩⟩ := S
  have hPl := Lib.hid hI.parts.len
  have hOl := Lib.hid hI.others.len
  have hItem : strOk item := hOk.item
  have hPo : ∀ p ∈ parts, strOk p.1 ∧ I64 p.2 := hOk.parts
  have hOo : ∀ x ∈ others, strOk x := hOk.others
  have hkk := hOk.kind
  unfold isByte at hkk
  simp only at hF hkb hNum hreq hkk
  have hPmx := Nat.le_trans hI.parts.le hI.parts.max
  have hOmx := Nat.le_trans hI.others.le hI.others.max
  simp only at hPmx hOmx
  unfold maxLen at hPmx hOmx
  have tA := Lib.hid ((Turned.refl (fun _ => False) w).alloc (.cells (askC ⟨kind, request, item, qty, day, days, rank, lot, line, parts, others⟩ ⟨⟨PA, Pn, Pc⟩, ⟨QA, On, Oc⟩⟩) 29))
  have bA := Lib.hid (Blk.new w 29 (askC ⟨kind, request, item, qty, day, days, rank, lot, line, parts, others⟩ ⟨⟨PA, Pn, Pc⟩, ⟨QA, On, Oc⟩⟩))
  clear hI hOk
  unfold askC strV at tA bA hR ⊢
  simp only at tA bA hR ⊢
  cases hr : rightA ⟨kind, request, item, qty, day, days, rank, lot, line, parts, others⟩ with
  | false =>
    rw [hr] at hR
    clear hr
    go_enter Tryz.func39, Tryz.ntmps39
    go_wp2_with fail
    refine (hR.out _ tA.out).mono ?_
    rintro e w1 ⟨rfl, t1⟩
    have T1 := Lib.hid (tA.out.and_ t1)
    clear t1
    go_wp2_with fail
    go_ret2
    exact ⟨rfl, T1.out⟩
  | true =>
    obtain ⟨f, hf, _, _, hfit⟩ := rightA_some hr
    have hpA := Lib.hid (show putA ⟨kind, request, item, qty, day, days, rank, lot, line, parts, others⟩ = headA ⟨kind, request, item, qty, day, days, rank, lot, line, parts, others⟩ ++ f.flatMap (encF ⟨kind, request, item, qty, day, days, rank, lot, line, parts, others⟩) from by unfold putA; rw [if_pos hr]; exact bodyA_eq hf)
    have hfk := fieldsK_kinds hf
    have hfl := (kinds_letters hfk).1
    have hokf := Lib.hid (show ∀ c ∈ f, okF ⟨kind, request, item, qty, day, days, rank, lot, line, parts, others⟩ c = true from fun c hc => by
      have := hfit c ((kinds_letters hfk).2 c hc)
      unfold fitF at this
      rw [if_pos (by simpa using hc)] at this
      exact this)
    rw [hr] at hR
    simp only at hf
    rw [fields_some hf] at hF
    clear hf hfit hr
    go_enter Tryz.func39, Tryz.ntmps39
    go_wp2_with fail
    refine (hR.out _ tA.out).mono ?_
    rintro e w1 ⟨rfl, t1⟩
    have T1 := Lib.hid (tA.out.and_ t1)
    have A1 := Lib.hid (show AskAt w1 w.heap.size ⟨kind, request, item, qty, day, days, rank, lot, line, parts, others⟩ ⟨⟨PA, Pn, Pc⟩, ⟨QA, On, Oc⟩⟩ from bA.out.turned t1 (fun e => e))
    clear t1 tA bA hR
    generalize hba : w.heap.size = ba at A1 ⊢
    have hba' := Lib.hid hba
    clear hba
    have k0 : w1.cell? ⟨ba, 0, none⟩ = some (.int .u8 kind) := (show AskAt _ _ _ _ from A1.out).cells.1
    go_wp2_with fail
    refine (hF.out _).mono ?_
    rintro e w9 ⟨rfl, rfl⟩
    clear k0
    go_upto_region 4 with fail
    go_cut [6] from 19 (fun u6 wc => ∃ A c, u6 = .slice A (1 + 8) c ∧ OwnV wc A (1 + 8) c ([kind] ++ be 8 request) ∧ (∀ g, A = some ⟨g, 0, none⟩ → w1.heap.size ≤ g) ∧ Turned (fun _ => False) w1 wc ∧ AskAt wc ba ⟨kind, request, item, qty, day, days, rank, lot, line, parts, others⟩ ⟨⟨PA, Pn, Pc⟩, ⟨QA, On, Oc⟩⟩)
    case first =>
      refine wp_region_ts (fun w' => AskAt w' ba ⟨kind, request, item, qty, day, days, rank, lot, line, parts, others⟩ ⟨⟨PA, Pn, Pc⟩, ⟨QA, On, Oc⟩⟩) (tsT [0, 1, 3, 4] (.two 2 5 (.run 5 (.run 6 (.take 7 .nil))) (.run 2 (.run 6 (.take 7 .nil))))) mixed (by kernel_rfl) (fun _ _ _ _ _ h => h) ?_
      simp only [tsT, tsF, List.foldr_cons, List.foldr_nil, Ts.map, List.getElem?_cons_zero, List.getElem?_cons_succ]
      have AAd := Lib.hid (A1.out.fresh ((Turned.refl (fun _ => False) w1).drew))
      have TTd := Lib.hid ((Turned.refl (fun _ => False) w1).drew)
      have hS := AAd.out
      iterate 4 (refine ts_take (v := ?_) hS rfl (fun w' hw => ?_) ?_; rotate_left; (focus ((try (obtain ⟨c0, c1, c2, c3, c4, c5, c6, c7, c8, c9, c10⟩ := AskAt.cells hw; simp only at c0 c1 c2 c3 c4 c5 c6 c7 c8 c9 c10)); go_simp; (try with_reducible rfl); done)); try simp only [Act.put, List.setIfInBounds_toArray, List.set_cons_zero, List.set_cons_succ])
      clear hS
      obtain ⟨wd, hwd⟩ : ∃ wd, wd = w1.drew := ⟨_, rfl⟩
      rw [← hwd] at AAd TTd ⊢
      clear hwd
      refine ts_two ?_ ?_
      · refine now_run rfl (fun K hK => ?_)
        go_simp
        have tx := (Turned.refl (fun _ => False) wd).alloc (.cells #[.int .u8 kind] 5)
        have OB := Lib.hid (OwnV.one wd kind)
        have AA1 := Lib.hid (AAd.out.fresh tx)
        have TT1 := Lib.hid (TTd.out.and_ tx)
        have HG := Lib.hid TTd.out.size
        refine hK.out _ _ AA1.out ?_
        clear hK K tx
        generalize wd.alloc (.cells #[.int .u8 kind] 5) = W1 at *
        generalize wd.heap.size = gs at *
        refine ts_run rfl (fun K hK => ?_)
        go_simp
        refine (fnumber13_any request 8 W1 (by omega) hreq.out).mono ?_
        rintro e W2 ⟨A2, c2, rfl, o2, g2, tx⟩
        rw [be_length] at o2 ⊢
        have ON := Lib.hid o2
        have OB := Lib.hid (OB.out.turned tx (fun _ _ e => e))
        have AA2 := Lib.hid (AA1.out.fresh tx)
        have TT2 := Lib.hid (TT1.out.and_ tx)
        refine hK.out _ _ AA2.out ?_
        clear hK K tx o2 g2
        refine ts_run rfl (fun K hK => ?_)
        refine wp_appB (.tmp 21) (.tmp 24) rfl OB.out ON.out (by omega) (by omega) rfl rfl ?_
        intro A4 c4 W4 ho4 hor4
        have hm4 := hor4.mine TT2.out (fun g e => by injection e with e; injection e with e; have := HG.out; omega)
        have AA4 := AA2.out.turned hor4.turned (fun e => OB.out.blk AA2.out (by decide) e rfl)
        have O4 := Lib.hid ho4
        have M4 := Lib.hid hm4
        refine hK.out _ _ AA4 ?_
        clear hK K ho4 hor4 hm4
        try simp only [Act.put, List.setIfInBounds_toArray, List.set_cons_zero, List.set_cons_succ]
        have hS := AA4
        (refine ts_take (v := ?_) hS rfl (fun w' hw => ?_) ?_; rotate_left; (focus ((try (obtain ⟨c0, c1, c2, c3, c4, c5, c6, c7, c8, c9, c10⟩ := AskAt.cells hw; simp only at c0 c1 c2 c3 c4 c5 c6 c7 c8 c9 c10)); go_simp; (try with_reducible rfl); done)); try simp only [Act.put, List.setIfInBounds_toArray, List.set_cons_zero, List.set_cons_succ])
        refine ts_nil ?_
        go_wp2_with fail
        try go_meet
        exact ⟨A4, c4, rfl, O4.out, M4.out.2, M4.out.1, hS⟩
      · refine now_run rfl (fun K hK => ?_)
        go_simp
        refine (fnumber13_any request 8 wd (by omega) hreq.out).mono ?_
        rintro e W1 ⟨A2, c2, rfl, o2, g2, tx⟩
        rw [be_length] at o2 ⊢
        have ON := Lib.hid o2
        have AA1 := Lib.hid (AAd.out.fresh tx)
        have TT1 := Lib.hid (TTd.out.and_ tx)
        refine hK.out _ _ AA1.out ?_
        clear hK K tx o2 g2
        refine ts_run rfl (fun K hK => ?_)
        go_simp
        have tx := (Turned.refl (fun _ => False) W1).alloc (.cells #[.int .u8 kind] 5)
        have OB := Lib.hid (OwnV.one W1 kind)
        have ON := Lib.hid (ON.out.turned tx (fun _ _ e => e))
        have AA2 := Lib.hid (AA1.out.fresh tx)
        have TT2 := Lib.hid (TT1.out.and_ tx)
        have HG := Lib.hid TT1.out.size
        refine hK.out _ _ AA2.out ?_
        clear hK K tx
        generalize W1.alloc (.cells #[.int .u8 kind] 5) = W2 at *
        generalize W1.heap.size = gs at *
        refine ts_run rfl (fun K hK => ?_)
        refine wp_appB (.tmp 21) (.tmp 24) rfl OB.out ON.out (by omega) (by omega) rfl rfl ?_
        intro A4 c4 W4 ho4 hor4
        have hm4 := hor4.mine TT2.out (fun g e => by injection e with e; injection e with e; have := HG.out; omega)
        have AA4 := AA2.out.turned hor4.turned (fun e => OB.out.blk AA2.out (by decide) e rfl)
        have O4 := Lib.hid ho4
        have M4 := Lib.hid hm4
        refine hK.out _ _ AA4 ?_
        clear hK K ho4 hor4 hm4
        try simp only [Act.put, List.setIfInBounds_toArray, List.set_cons_zero, List.set_cons_succ]
        have hS := AA4
        (refine ts_take (v := ?_) hS rfl (fun w' hw => ?_) ?_; rotate_left; (focus ((try (obtain ⟨c0, c1, c2, c3, c4, c5, c6, c7, c8, c9, c10⟩ := AskAt.cells hw; simp only at c0 c1 c2 c3 c4 c5 c6 c7 c8 c9 c10)); go_simp; (try with_reducible rfl); done)); try simp only [Act.put, List.setIfInBounds_toArray, List.set_cons_zero, List.set_cons_succ])
        refine ts_nil ?_
        go_wp2_with fail
        try go_meet
        exact ⟨A4, c4, rfl, O4.out, M4.out.2, M4.out.1, hS⟩
    case rest =>
      obtain ⟨A0, c0, rfl, hown, hge, tc, hac⟩ := hcut
      have TC := Lib.hid (T1.out.and_ tc)
      have hl9 : 1 + 8 = (headA ⟨kind, request, item, qty, day, days, rank, lot, line, parts, others⟩).length := by unfold headA; rw [List.length_append, be_length, be_length]
      have hz9 : [kind] ++ be 8 request = headA ⟨kind, request, item, qty, day, days, rank, lot, line, parts, others⟩ := by unfold headA; rw [hkb.out]
      have hst0 : PuRel ⟨kind, request, item, qty, day, days, rank, lot, line, parts, others⟩ ⟨⟨PA, Pn, Pc⟩, ⟨QA, On, Oc⟩⟩ f w ba (.slice A0 (1 + 8) c0) (.int .i64 0) wc := ⟨0, A0, c0, Nat.zero_le _, rfl, by rw [hl9]; simp, hac, by
        rw [hl9, hz9] at hown
        simpa using hown, fun g e => Nat.le_trans T1.out.size (hge g e), TC.out⟩
      have hst := Lib.hid hst0
      clear hst0 hl9 hz9 hown hge tc hac A1 T1 TC
      have hsz := fBA_size f
      have hszi : ((fBA f).size : Int) = (f.length : Int) := by rw [hsz]
      go_wp2_with fail
      go_loopw [6, 7] (fun v i wr => PuRel ⟨kind, request, item, qty, day, days, rank, lot, line, parts, others⟩ ⟨⟨PA, Pn, Pc⟩, ⟨QA, On, Oc⟩⟩ f w ba v i wr) (fun _ i _ => f.length - (intOf i).toNat)
      case atStart => exact hst.out
      case round =>
        obtain ⟨pos, A, c, hpl0, rfl, rfl, hW⟩ := hrel
        clear hst
        have R1 := Lib.hid hW
        clear hW
        by_cases hpl : pos < f.length
        · have hp : pos < (fBA f).size := by omega
          have hpi : (pos : Int) < (f.length : Int) := by omega
          obtain ⟨k, hcm, hcv, htk0, h128⟩ := letter_at hfk hp
          have htk := Lib.hid htk0
          have hok0 := hokf.out k (by
            have : k ∈ f.take (pos + 1) := by rw [htk0]; simp
            exact List.mem_of_mem_take this)
          have hok := Lib.hid hok0
          clear htk0 hok0
          unfold letters at hcm
          simp only [List.mem_cons, List.not_mem_nil, or_false] at hcm
          rcases hcm with rfl | rfl | rfl | rfl | rfl | rfl | rfl | rfl | rfl
          · have hzl := so_far_len hfl hokf.out pos
            obtain ⟨zs, hzs⟩ : ∃ zs, zs = (headA ⟨kind, request, item, qty, day, days, rank, lot, line, parts, others⟩ ++ (f.take pos).flatMap (encF ⟨kind, request, item, qty, day, days, rank, lot, line, parts, others⟩)) := ⟨_, rfl⟩
            rw [← hzs] at R1 hzl ⊢
            have hZS := Lib.hid hzs
            clear hzs
            have a0 : wr.cell? ⟨ba, 2, none⟩ = some (.string ⟨item.toArray⟩) := R1.out.aa.cell 2
            have hcd := Lib.hid (putL_code (show codeL item = true from hok.out))
            have hcd1 := hcd.out.1
            have hcd2 := hcd.out.2
            go_wp2_with fail
            refine (rcode_put_any item wr hItem).mono ?_
            rintro e W2 ⟨A2, c2, rfl, o2, g2, t2⟩
            have O2 := Lib.hid o2
            have R2 := Lib.hid (R1.out.fresh t2)
            clear o2 g2 t2
            generalize hml : (putL item).length = ml at *
            have hml2 := Lib.hid hml
            clear hml
            go_wp2_with (at_builtin; refine wpList_appB rfl (.tmp 37) (.tmp 40) rfl R2.out.own O2.out (by omega) (by omega) rfl rfl ?_; intro A4 c4 w4 ho4 hor4; have R4 := Lib.hid (R2.out.app ho4 hor4); clear ho4 hor4)
            have hzn : zs.length + ml = (zs ++ (putL item)).length := by rw [List.length_append, hml2.out]
            have FI := Lib.hid (show PuRel ⟨kind, request, item, qty, day, days, rank, lot, line, parts, others⟩ ⟨⟨PA, Pn, Pc⟩, ⟨QA, On, Oc⟩⟩ f w ba (.slice A4 (zs.length + ml) c4) (.int .i64 ((pos + 1 : Nat) : Int)) w4 from by
              rw [hzn]
              exact PuRel.step (k := 105) hpl htk.out (by rw [hZS.out]; rfl) R4.out)
            clear hzn
            try go_wp2_with fail
            go_roundw
            case rel =>
              first
              | exact FI.out
              | ((repeat apply Exists.intro); exact ⟨FI.out, rfl⟩)
            case measure => simp [intOf] <;> omega
          · have hzl := so_far_len hfl hokf.out pos
            obtain ⟨zs, hzs⟩ : ∃ zs, zs = (headA ⟨kind, request, item, qty, day, days, rank, lot, line, parts, others⟩ ++ (f.take pos).flatMap (encF ⟨kind, request, item, qty, day, days, rank, lot, line, parts, others⟩)) := ⟨_, rfl⟩
            rw [← hzs] at R1 hzl ⊢
            have hZS := Lib.hid hzs
            clear hzs
            have a0 : wr.cell? ⟨ba, 3, none⟩ = some (.int .i64 qty) := R1.out.aa.cell 3
            go_wp2_with fail
            refine (fnumber13_any qty 8 wr (by omega) (by have := hNum.out; unfold I64 at *; omega)).mono ?_
            rintro e W2 ⟨A2, c2, rfl, o2, g2, t2⟩
            rw [be_length] at o2 ⊢
            have O2 := Lib.hid o2
            have R2 := Lib.hid (R1.out.fresh t2)
            clear o2 g2 t2
            go_wp2_with (at_builtin; refine wpList_appB rfl (.tmp 44) (.tmp 47) rfl R2.out.own O2.out (by omega) (by omega) rfl rfl ?_; intro A4 c4 w4 ho4 hor4; have R4 := Lib.hid (R2.out.app ho4 hor4); clear ho4 hor4)
            have hzn : zs.length + 8 = (zs ++ (be 8 qty)).length := by rw [List.length_append, be_length]
            have FI := Lib.hid (show PuRel ⟨kind, request, item, qty, day, days, rank, lot, line, parts, others⟩ ⟨⟨PA, Pn, Pc⟩, ⟨QA, On, Oc⟩⟩ f w ba (.slice A4 (zs.length + 8) c4) (.int .i64 ((pos + 1 : Nat) : Int)) w4 from by
              rw [hzn]
              exact PuRel.step (k := 113) hpl htk.out (by rw [hZS.out]; rfl) R4.out)
            clear hzn
            try go_wp2_with fail
            go_roundw
            case rel =>
              first
              | exact FI.out
              | ((repeat apply Exists.intro); exact ⟨FI.out, rfl⟩)
            case measure => simp [intOf] <;> omega
          · have hzl := so_far_len hfl hokf.out pos
            obtain ⟨zs, hzs⟩ : ∃ zs, zs = (headA ⟨kind, request, item, qty, day, days, rank, lot, line, parts, others⟩ ++ (f.take pos).flatMap (encF ⟨kind, request, item, qty, day, days, rank, lot, line, parts, others⟩)) := ⟨_, rfl⟩
            rw [← hzs] at R1 hzl ⊢
            have hZS := Lib.hid hzs
            clear hzs
            have a0 : wr.cell? ⟨ba, 4, none⟩ = some (.int .i64 day) := R1.out.aa.cell 4
            go_wp2_with fail
            refine (fnumber13_any day 2 wr (by omega) (by have := hNum.out; unfold I64 at *; omega)).mono ?_
            rintro e W2 ⟨A2, c2, rfl, o2, g2, t2⟩
            rw [be_length] at o2 ⊢
            have O2 := Lib.hid o2
            have R2 := Lib.hid (R1.out.fresh t2)
            clear o2 g2 t2
            go_wp2_with (at_builtin; refine wpList_appB rfl (.tmp 51) (.tmp 54) rfl R2.out.own O2.out (by omega) (by omega) rfl rfl ?_; intro A4 c4 w4 ho4 hor4; have R4 := Lib.hid (R2.out.app ho4 hor4); clear ho4 hor4)
            have hzn : zs.length + 2 = (zs ++ (be 2 day)).length := by rw [List.length_append, be_length]
            have FI := Lib.hid (show PuRel ⟨kind, request, item, qty, day, days, rank, lot, line, parts, others⟩ ⟨⟨PA, Pn, Pc⟩, ⟨QA, On, Oc⟩⟩ f w ba (.slice A4 (zs.length + 2) c4) (.int .i64 ((pos + 1 : Nat) : Int)) w4 from by
              rw [hzn]
              exact PuRel.step (k := 100) hpl htk.out (by rw [hZS.out]; rfl) R4.out)
            clear hzn
            try go_wp2_with fail
            go_roundw
            case rel =>
              first
              | exact FI.out
              | ((repeat apply Exists.intro); exact ⟨FI.out, rfl⟩)
            case measure => simp [intOf] <;> omega
          · have hzl := so_far_len hfl hokf.out pos
            obtain ⟨zs, hzs⟩ : ∃ zs, zs = (headA ⟨kind, request, item, qty, day, days, rank, lot, line, parts, others⟩ ++ (f.take pos).flatMap (encF ⟨kind, request, item, qty, day, days, rank, lot, line, parts, others⟩)) := ⟨_, rfl⟩
            rw [← hzs] at R1 hzl ⊢
            have hZS := Lib.hid hzs
            clear hzs
            have a0 : wr.cell? ⟨ba, 5, none⟩ = some (.int .i64 days) := R1.out.aa.cell 5
            go_wp2_with fail
            refine (fnumber13_any days 2 wr (by omega) (by have := hNum.out; unfold I64 at *; omega)).mono ?_
            rintro e W2 ⟨A2, c2, rfl, o2, g2, t2⟩
            rw [be_length] at o2 ⊢
            have O2 := Lib.hid o2
            have R2 := Lib.hid (R1.out.fresh t2)
            clear o2 g2 t2
            go_wp2_with (at_builtin; refine wpList_appB rfl (.tmp 58) (.tmp 61) rfl R2.out.own O2.out (by omega) (by omega) rfl rfl ?_; intro A4 c4 w4 ho4 hor4; have R4 := Lib.hid (R2.out.app ho4 hor4); clear ho4 hor4)
            have hzn : zs.length + 2 = (zs ++ (be 2 days)).length := by rw [List.length_append, be_length]
            have FI := Lib.hid (show PuRel ⟨kind, request, item, qty, day, days, rank, lot, line, parts, others⟩ ⟨⟨PA, Pn, Pc⟩, ⟨QA, On, Oc⟩⟩ f w ba (.slice A4 (zs.length + 2) c4) (.int .i64 ((pos + 1 : Nat) : Int)) w4 from by
              rw [hzn]
              exact PuRel.step (k := 108) hpl htk.out (by rw [hZS.out]; rfl) R4.out)
            clear hzn
            try go_wp2_with fail
            go_roundw
            case rel =>
              first
              | exact FI.out
              | ((repeat apply Exists.intro); exact ⟨FI.out, rfl⟩)
            case measure => simp [intOf] <;> omega
          · have hzl := so_far_len hfl hokf.out pos
            obtain ⟨zs, hzs⟩ : ∃ zs, zs = (headA ⟨kind, request, item, qty, day, days, rank, lot, line, parts, others⟩ ++ (f.take pos).flatMap (encF ⟨kind, request, item, qty, day, days, rank, lot, line, parts, others⟩)) := ⟨_, rfl⟩
            rw [← hzs] at R1 hzl ⊢
            have hZS := Lib.hid hzs
            clear hzs
            have a0 : wr.cell? ⟨ba, 6, none⟩ = some (.int .i64 rank) := R1.out.aa.cell 6
            have oB := Lib.hid (OwnV.one wr (rank % 256))
            have tB := Lib.hid ((Turned.refl (fun _ => False) wr).alloc (.cells #[.int .u8 (rank % 256)] 5))
            have R2 := Lib.hid (R1.out.fresh tB.out)
            go_wp2_with (at_builtin; refine wpList_appB rfl (.tmp 65) (.tmp 69) rfl R2.out.own oB.out (by omega) (by omega) rfl rfl ?_; intro A4 c4 w4 ho4 hor4; have R4 := Lib.hid (R2.out.app ho4 hor4); clear ho4 hor4)
            have hzn : zs.length + 1 = (zs ++ [rank % 256]).length := by rw [List.length_append]; rfl
            have FI := Lib.hid (show PuRel ⟨kind, request, item, qty, day, days, rank, lot, line, parts, others⟩ ⟨⟨PA, Pn, Pc⟩, ⟨QA, On, Oc⟩⟩ f w ba (.slice A4 (zs.length + 1) c4) (.int .i64 ((pos + 1 : Nat) : Int)) w4 from by
              rw [hzn]
              exact PuRel.step (k := 114) hpl htk.out (by rw [hZS.out, show [rank % 256] = be 1 rank from (be1_mod rank).symm]; rfl) R4.out)
            clear hzn
            try go_wp2_with fail
            go_roundw
            case rel =>
              first
              | exact FI.out
              | ((repeat apply Exists.intro); exact ⟨FI.out, rfl⟩)
            case measure => simp [intOf] <;> omega
          · have hzl := so_far_len hfl hokf.out pos
            obtain ⟨zs, hzs⟩ : ∃ zs, zs = (headA ⟨kind, request, item, qty, day, days, rank, lot, line, parts, others⟩ ++ (f.take pos).flatMap (encF ⟨kind, request, item, qty, day, days, rank, lot, line, parts, others⟩)) := ⟨_, rfl⟩
            rw [← hzs] at R1 hzl ⊢
            have hZS := Lib.hid hzs
            clear hzs
            have a0 : wr.cell? ⟨ba, 7, none⟩ = some (.int .i64 lot) := R1.out.aa.cell 7
            go_wp2_with fail
            refine (fnumber13_any lot 8 wr (by omega) (by have := hNum.out; unfold I64 at *; omega)).mono ?_
            rintro e W2 ⟨A2, c2, rfl, o2, g2, t2⟩
            rw [be_length] at o2 ⊢
            have O2 := Lib.hid o2
            have R2 := Lib.hid (R1.out.fresh t2)
            clear o2 g2 t2
            go_wp2_with (at_builtin; refine wpList_appB rfl (.tmp 73) (.tmp 76) rfl R2.out.own O2.out (by omega) (by omega) rfl rfl ?_; intro A4 c4 w4 ho4 hor4; have R4 := Lib.hid (R2.out.app ho4 hor4); clear ho4 hor4)
            have hzn : zs.length + 8 = (zs ++ (be 8 lot)).length := by rw [List.length_append, be_length]
            have FI := Lib.hid (show PuRel ⟨kind, request, item, qty, day, days, rank, lot, line, parts, others⟩ ⟨⟨PA, Pn, Pc⟩, ⟨QA, On, Oc⟩⟩ f w ba (.slice A4 (zs.length + 8) c4) (.int .i64 ((pos + 1 : Nat) : Int)) w4 from by
              rw [hzn]
              exact PuRel.step (k := 116) hpl htk.out (by rw [hZS.out]; rfl) R4.out)
            clear hzn
            try go_wp2_with fail
            go_roundw
            case rel =>
              first
              | exact FI.out
              | ((repeat apply Exists.intro); exact ⟨FI.out, rfl⟩)
            case measure => simp [intOf] <;> omega
          · have hzl := so_far_len hfl hokf.out pos
            obtain ⟨zs, hzs⟩ : ∃ zs, zs = (headA ⟨kind, request, item, qty, day, days, rank, lot, line, parts, others⟩ ++ (f.take pos).flatMap (encF ⟨kind, request, item, qty, day, days, rank, lot, line, parts, others⟩)) := ⟨_, rfl⟩
            rw [← hzs] at R1 hzl ⊢
            have hZS := Lib.hid hzs
            clear hzs
            have a0 : wr.cell? ⟨ba, 8, none⟩ = some (.int .i64 line) := R1.out.aa.cell 8
            go_wp2_with fail
            refine (fnumber13_any line 8 wr (by omega) (by have := hNum.out; unfold I64 at *; omega)).mono ?_
            rintro e W2 ⟨A2, c2, rfl, o2, g2, t2⟩
            rw [be_length] at o2 ⊢
            have O2 := Lib.hid o2
            have R2 := Lib.hid (R1.out.fresh t2)
            clear o2 g2 t2
            go_wp2_with (at_builtin; refine wpList_appB rfl (.tmp 80) (.tmp 83) rfl R2.out.own O2.out (by omega) (by omega) rfl rfl ?_; intro A4 c4 w4 ho4 hor4; have R4 := Lib.hid (R2.out.app ho4 hor4); clear ho4 hor4)
            have hzn : zs.length + 8 = (zs ++ (be 8 line)).length := by rw [List.length_append, be_length]
            have FI := Lib.hid (show PuRel ⟨kind, request, item, qty, day, days, rank, lot, line, parts, others⟩ ⟨⟨PA, Pn, Pc⟩, ⟨QA, On, Oc⟩⟩ f w ba (.slice A4 (zs.length + 8) c4) (.int .i64 ((pos + 1 : Nat) : Int)) w4 from by
              rw [hzn]
              exact PuRel.step (k := 110) hpl htk.out (by rw [hZS.out]; rfl) R4.out)
            clear hzn
            try go_wp2_with fail
            go_roundw
            case rel =>
              first
              | exact FI.out
              | ((repeat apply Exists.intro); exact ⟨FI.out, rfl⟩)
            case measure => simp [intOf] <;> omega
          · have hzl := so_far_len hfl hokf.out pos
            have hll := Lib.hid (show parts.length = Pn from hPl.out)
            have hpb := Lib.hid (partsB_mem (show partsB parts = true from hok.out))
            have hn8 : Pn ≤ 8 := by have := hpb.out.2.1; rw [hll.out] at this; exact this
            obtain ⟨zs, hzs⟩ : ∃ zs, zs = (headA ⟨kind, request, item, qty, day, days, rank, lot, line, parts, others⟩ ++ (f.take pos).flatMap (encF ⟨kind, request, item, qty, day, days, rank, lot, line, parts, others⟩)) := ⟨_, rfl⟩
            rw [← hzs] at R1 hzl ⊢
            have hZS := Lib.hid hzs
            clear hzs
            have a0 : wr.cell? ⟨ba, 9, none⟩ = some (.slice PA Pn Pc) := R1.out.aa.cell 9
            have hnm : (Pn : Int) % 256 = (Pn : Int) := by omega
            have oB := Lib.hid (OwnV.one wr (Pn : Int))
            have tB := Lib.hid ((Turned.refl (fun _ => False) wr).alloc (.cells #[.int .u8 (Pn : Int)] 5))
            have R2 := Lib.hid (R1.out.fresh tB.out)
            go_wp2_with (at_builtin; refine wpList_appB rfl (.tmp 87) (.tmp 92) rfl R2.out.own oB.out (by omega) (by omega) rfl rfl ?_; intro A4 c4 w4 ho4 hor4; have R4 := Lib.hid (R2.out.app ho4 hor4); clear ho4 hor4)
            have hst : PuIn ⟨kind, request, item, qty, day, days, rank, lot, line, parts, others⟩ ⟨⟨PA, Pn, Pc⟩, ⟨QA, On, Oc⟩⟩ w ba Pn (fun j => ((headA ⟨kind, request, item, qty, day, days, rank, lot, line, parts, others⟩ ++ (f.take pos).flatMap (encF ⟨kind, request, item, qty, day, days, rank, lot, line, parts, others⟩)) ++ (be 1 (parts.length : Int) ++ (parts.take j).flatMap encP))) (.slice A4 (zs.length + 1) c4) (.int .i64 0) w4 := ⟨0, A4, c4, Nat.zero_le _, rfl, by rw [hZS.out]; simp [be_length, Nat.add_assoc], by
              have h5 := R4.out
              rw [hZS.out] at h5
              rw [show [(Pn : Int)] = be 1 (parts.length : Int) from by rw [be1_mod, hll.out, hnm]] at h5
              simpa using h5⟩
            have hst := Lib.hid hst
            clear R4 R2 R1 tB oB hnm a0
            try go_wp2_with fail
            obtain ⟨wo, hwo⟩ : ∃ wo : World, wo = w4 := ⟨_, rfl⟩
            clear hwo wo
            go_loopw [6, 8] (fun v i wr => PuIn ⟨kind, request, item, qty, day, days, rank, lot, line, parts, others⟩ ⟨⟨PA, Pn, Pc⟩, ⟨QA, On, Oc⟩⟩ w ba Pn (fun j => ((headA ⟨kind, request, item, qty, day, days, rank, lot, line, parts, others⟩ ++ (f.take pos).flatMap (encF ⟨kind, request, item, qty, day, days, rank, lot, line, parts, others⟩)) ++ (be 1 (parts.length : Int) ++ (parts.take j).flatMap encP))) v i wr) (fun _ i _ => Pn - (intOf i).toNat)
            case atStart => exact hst.out
            case round =>
              obtain ⟨j, A6, c6, hj, rfl, hv, R6⟩ := hrel
              have R6 : PuW ⟨kind, request, item, qty, day, days, rank, lot, line, parts, others⟩ ⟨⟨PA, Pn, Pc⟩, ⟨QA, On, Oc⟩⟩ w ba A6 c6 ((headA ⟨kind, request, item, qty, day, days, rank, lot, line, parts, others⟩ ++ (f.take pos).flatMap (encF ⟨kind, request, item, qty, day, days, rank, lot, line, parts, others⟩)) ++ (be 1 (parts.length : Int) ++ (parts.take j).flatMap encP)) wr := R6
              have hv : _ = Value.slice A6 (((headA ⟨kind, request, item, qty, day, days, rank, lot, line, parts, others⟩ ++ (f.take pos).flatMap (encF ⟨kind, request, item, qty, day, days, rank, lot, line, parts, others⟩)) ++ (be 1 (parts.length : Int) ++ (parts.take j).flatMap encP))).length c6 := hv
              subst hv
              clear hst
              have htl := Lib.hid (fun (e : j = Pn) => show parts.take j = parts from List.take_of_length_le (by rw [hll.out, e]; exact Nat.le_refl _))
              have hzj : (((headA ⟨kind, request, item, qty, day, days, rank, lot, line, parts, others⟩ ++ (f.take pos).flatMap (encF ⟨kind, request, item, qty, day, days, rank, lot, line, parts, others⟩)) ++ (be 1 (parts.length : Int) ++ (parts.take j).flatMap encP))).length ≤ 2000 := by
                have h1 := hzl
                rw [hZS.out] at h1
                have h2 := flat_len encP 21 (parts.take j) (fun p hp => by have := (putL_code (hpb.out.2.2 p (List.mem_of_mem_take hp)).1).2; unfold encP; rw [List.length_append, be_length]; omega)
                have h3 : (parts.take j).length ≤ 8 := by rw [List.length_take, hll.out]; omega
                simp only [List.length_append, be_length] at h1 ⊢
                omega
              obtain ⟨ws, hws⟩ : ∃ ws, ws = ((headA ⟨kind, request, item, qty, day, days, rank, lot, line, parts, others⟩ ++ (f.take pos).flatMap (encF ⟨kind, request, item, qty, day, days, rank, lot, line, parts, others⟩)) ++ (be 1 (parts.length : Int) ++ (parts.take j).flatMap encP)) := ⟨_, rfl⟩
              rw [← hws] at R6 hzj ⊢
              have hWS := Lib.hid hws
              have R6 := Lib.hid R6
              have hzj := Lib.hid hzj
              have hzj1 := hzj.out
              clear hws
              have a1 : wr.cell? ⟨ba, 9, none⟩ = some (.slice PA Pn Pc) := R6.out.aa.cell 9
              by_cases hlt : j < Pn
              · have hji : (j : Int) < (Pn : Int) := by omega
                obtain ⟨b, off, hA, hcell⟩ := (hIs.out.fresh R6.out.t).parts.cells (show 0 < Pn by omega)
                simp only at hA
                subst hA
                obtain ⟨q0, q1⟩ := hcell j hlt
                unfold strV at q0
                have hsn := Lib.hid (take_snocD parts j (by rw [hll.out]; exact hlt))
                have hmem := hpb.out.2.2 (parts.getD j ([], 0)) (by rw [List.getD_eq_getElem?_getD, List.getElem?_eq_getElem (by rw [hll.out]; exact hlt)]; exact List.getElem_mem _)
                have hcd := Lib.hid (putL_code (show codeL (itemAt parts j) = true from hmem.1))
                have hmo := hPo (parts.getD j ([], 0)) (by rw [List.getD_eq_getElem?_getD, List.getElem?_eq_getElem (by rw [hll.out]; exact hlt)]; exact List.getElem_mem _)
                have hio := Lib.hid (show strOk (itemAt parts j) from hmo.1)
                have hqo := Lib.hid (show I64 (qtyAt parts j) from hmo.2)
                have hcl := Lib.hid (hcell j hlt)
                clear hcell hmem hmo
                generalize itemAt parts j = iv at *
                obtain ⟨qv, hqv⟩ : ∃ qv, qv = qtyAt parts j := ⟨_, rfl⟩
                rw [← hqv] at q1 hsn hqo hcl
                have hqe := Lib.hid hqv
                clear hqv
                have hcd1 := hcd.out.1
                have hcd2 := hcd.out.2
                go_wp2_with fail
                refine (rcode_put_any iv wr hio.out).mono ?_
                rintro e W7 ⟨A7, c7, rfl, o7, g7, t7⟩
                have O7 := Lib.hid o7
                have R7 := Lib.hid (R6.out.fresh t7)
                have q2 := cell_turned t7 q1 (fun e => e)
                have U7 := Lib.hid t7
                clear o7 g7 t7 q0 q1 a1
                generalize hml : (putL iv).length = ml at *
                have hml2 := Lib.hid hml
                clear hml
                go_wp2_with (at_builtin; refine wpList_appB rfl (.tmp 101) (.tmp 108) rfl R7.out.own O7.out (by omega) (by omega) rfl rfl ?_; intro A4 c4 w4 ho4 hor4; have R4 := Lib.hid (R7.out.app ho4 hor4); clear ho4 hor4; have a2 : w4.cell? ⟨ba, 9, none⟩ = some (.slice (some ⟨b, off, none⟩) Pn Pc) := R4.out.aa.cell 9; have q3 : w4.cell? ⟨b, off + j * 2 + 1, none⟩ = some (.int .i64 qv) := (by rw [hqe.out]; exact slQ_snd hIs.out.parts R4.out.t hlt))
                have hml3 : ws.length + ml = (ws ++ putL iv).length := by rw [List.length_append, hml2.out]
                have R8 := Lib.hid (show PuW _ _ w ba A4 c4 (ws ++ putL iv) w4 from R4.out)
                clear q2
                obtain ⟨us, hus⟩ : ∃ us, us = ws ++ putL iv := ⟨_, rfl⟩
                rw [← hus] at R8 hml3
                have hUS := Lib.hid hus
                clear hus
                rw [hml3]
                have hul : us.length ≤ 2100 := by omega
                clear hml3 R4
                try go_wp2_with fail
                refine (fnumber13_any qv 8 _ (by omega) hqo.out).mono ?_
                rintro e W9 ⟨A9, c9, rfl, o9, g9, t9⟩
                rw [be_length] at o9 ⊢
                have O9 := Lib.hid o9
                have R9 := Lib.hid (R8.out.fresh t9)
                clear o9 g9 t9 a2 q3
                go_wp2_with (at_builtin; refine wpList_appB rfl (.tmp 110) (.tmp 117) rfl R9.out.own O9.out (by omega) (by omega) rfl rfl ?_; intro A5 c5 w5 ho4 hor4; have R4 := Lib.hid (R9.out.app ho4 hor4); clear ho4 hor4)
                have hzn : us.length + 8 = (us ++ be 8 qv).length := by rw [List.length_append, be_length]
                have FI := Lib.hid (show PuIn ⟨kind, request, item, qty, day, days, rank, lot, line, parts, others⟩ ⟨⟨some ⟨b, off, none⟩, Pn, Pc⟩, ⟨QA, On, Oc⟩⟩ w ba Pn (fun j => ((headA ⟨kind, request, item, qty, day, days, rank, lot, line, parts, others⟩ ++ (f.take pos).flatMap (encF ⟨kind, request, item, qty, day, days, rank, lot, line, parts, others⟩)) ++ (be 1 (parts.length : Int) ++ (parts.take j).flatMap encP))) (.slice A5 (us.length + 8) c5) (.int .i64 ((j + 1 : Nat) : Int)) w5 from ⟨j + 1, A5, c5, hlt, rfl, by
                  rw [hzn, hUS.out, hWS.out]
                  show _ = Value.slice A5 ((headA ⟨kind, request, item, qty, day, days, rank, lot, line, parts, others⟩ ++ (f.take pos).flatMap (encF ⟨kind, request, item, qty, day, days, rank, lot, line, parts, others⟩)) ++ (be 1 (parts.length : Int) ++ (parts.take (j + 1)).flatMap encP)).length c5
                  rw [hsn.out, List.flatMap_append]
                  simp only [List.append_assoc, List.flatMap_cons, List.flatMap_nil, List.append_nil, encP], by
                  show PuW _ _ _ _ _ _ ((headA ⟨kind, request, item, qty, day, days, rank, lot, line, parts, others⟩ ++ (f.take pos).flatMap (encF ⟨kind, request, item, qty, day, days, rank, lot, line, parts, others⟩)) ++ (be 1 (parts.length : Int) ++ (parts.take (j + 1)).flatMap encP)) _
                  rw [hsn.out, List.flatMap_append]
                  have h5 := R4.out
                  rw [hUS.out, hWS.out] at h5
                  simp only [List.append_assoc, List.flatMap_cons, List.flatMap_nil, List.append_nil, encP] at h5 ⊢
                  exact h5⟩)
                clear hzn
                try go_wp2_with fail
                go_roundw
                case rel =>
                  first
                  | exact FI.out
                  | ((repeat apply Exists.intro); exact ⟨FI.out, rfl⟩)
                case measure => simp [intOf] <;> omega
              · have hge : (Pn : Int) ≤ (j : Int) := by omega
                have hjn : j = Pn := by omega
                have FI := Lib.hid (show PuRel ⟨kind, request, item, qty, day, days, rank, lot, line, parts, others⟩ ⟨⟨PA, Pn, Pc⟩, ⟨QA, On, Oc⟩⟩ f w ba (.slice A6 ws.length c6) (.int .i64 ((pos + 1 : Nat) : Int)) wr from PuRel.step (k := 112) hpl htk.out (by
                  rw [hWS.out, htl.out hjn]
                  rfl) R6.out)
                clear hjn
                go_wp2_with fail
                go_roundw
                case rel =>
                  first
                  | exact FI.out
                  | ((repeat apply Exists.intro); exact ⟨FI.out, rfl⟩)
                case measure => simp [intOf] <;> omega
          · have hzl := so_far_len hfl hokf.out pos
            have hll := Lib.hid (show others.length = On from hOl.out)
            have hob := Lib.hid (othersB_mem (show othersB others item = true from hok.out))
            have hn8 : On ≤ 8 := by have := hob.out.1; rw [hll.out] at this; omega
            obtain ⟨zs, hzs⟩ : ∃ zs, zs = (headA ⟨kind, request, item, qty, day, days, rank, lot, line, parts, others⟩ ++ (f.take pos).flatMap (encF ⟨kind, request, item, qty, day, days, rank, lot, line, parts, others⟩)) := ⟨_, rfl⟩
            rw [← hzs] at R1 hzl ⊢
            have hZS := Lib.hid hzs
            clear hzs
            have a0 : wr.cell? ⟨ba, 10, none⟩ = some (.slice QA On Oc) := R1.out.aa.cell 10
            have hnm : (On : Int) % 256 = (On : Int) := by omega
            have oB := Lib.hid (OwnV.one wr (On : Int))
            have tB := Lib.hid ((Turned.refl (fun _ => False) wr).alloc (.cells #[.int .u8 (On : Int)] 5))
            have R2 := Lib.hid (R1.out.fresh tB.out)
            go_wp2_with (at_builtin; refine wpList_appB rfl (.tmp 121) (.tmp 126) rfl R2.out.own oB.out (by omega) (by omega) rfl rfl ?_; intro A4 c4 w4 ho4 hor4; have R4 := Lib.hid (R2.out.app ho4 hor4); clear ho4 hor4)
            have hst : PuIn ⟨kind, request, item, qty, day, days, rank, lot, line, parts, others⟩ ⟨⟨PA, Pn, Pc⟩, ⟨QA, On, Oc⟩⟩ w ba On (fun j => ((headA ⟨kind, request, item, qty, day, days, rank, lot, line, parts, others⟩ ++ (f.take pos).flatMap (encF ⟨kind, request, item, qty, day, days, rank, lot, line, parts, others⟩)) ++ (be 1 (others.length : Int) ++ (others.take j).flatMap putL))) (.slice A4 (zs.length + 1) c4) (.int .i64 0) w4 := ⟨0, A4, c4, Nat.zero_le _, rfl, by rw [hZS.out]; simp [be_length, Nat.add_assoc], by
              have h5 := R4.out
              rw [hZS.out] at h5
              rw [show [(On : Int)] = be 1 (others.length : Int) from by rw [be1_mod, hll.out, hnm]] at h5
              simpa using h5⟩
            have hst := Lib.hid hst
            clear R4 R2 R1 tB oB hnm a0
            try go_wp2_with fail
            obtain ⟨wo, hwo⟩ : ∃ wo : World, wo = w4 := ⟨_, rfl⟩
            clear hwo wo
            go_loopw [6, 9] (fun v i wr => PuIn ⟨kind, request, item, qty, day, days, rank, lot, line, parts, others⟩ ⟨⟨PA, Pn, Pc⟩, ⟨QA, On, Oc⟩⟩ w ba On (fun j => ((headA ⟨kind, request, item, qty, day, days, rank, lot, line, parts, others⟩ ++ (f.take pos).flatMap (encF ⟨kind, request, item, qty, day, days, rank, lot, line, parts, others⟩)) ++ (be 1 (others.length : Int) ++ (others.take j).flatMap putL))) v i wr) (fun _ i _ => On - (intOf i).toNat)
            case atStart => exact hst.out
            case round =>
              obtain ⟨j, A6, c6, hj, rfl, hv, R6⟩ := hrel
              have R6 : PuW ⟨kind, request, item, qty, day, days, rank, lot, line, parts, others⟩ ⟨⟨PA, Pn, Pc⟩, ⟨QA, On, Oc⟩⟩ w ba A6 c6 ((headA ⟨kind, request, item, qty, day, days, rank, lot, line, parts, others⟩ ++ (f.take pos).flatMap (encF ⟨kind, request, item, qty, day, days, rank, lot, line, parts, others⟩)) ++ (be 1 (others.length : Int) ++ (others.take j).flatMap putL)) wr := R6
              have hv : _ = Value.slice A6 (((headA ⟨kind, request, item, qty, day, days, rank, lot, line, parts, others⟩ ++ (f.take pos).flatMap (encF ⟨kind, request, item, qty, day, days, rank, lot, line, parts, others⟩)) ++ (be 1 (others.length : Int) ++ (others.take j).flatMap putL))).length c6 := hv
              subst hv
              clear hst
              have htl := Lib.hid (fun (e : j = On) => show others.take j = others from List.take_of_length_le (by rw [hll.out, e]; exact Nat.le_refl _))
              have hzj : (((headA ⟨kind, request, item, qty, day, days, rank, lot, line, parts, others⟩ ++ (f.take pos).flatMap (encF ⟨kind, request, item, qty, day, days, rank, lot, line, parts, others⟩)) ++ (be 1 (others.length : Int) ++ (others.take j).flatMap putL))).length ≤ 2000 := by
                have h1 := hzl
                rw [hZS.out] at h1
                have h2 := flat_len putL 13 (others.take j) (fun p hp => (putL_code (hob.out.2 p (List.mem_of_mem_take hp))).2)
                have h3 : (others.take j).length ≤ 8 := by rw [List.length_take, hll.out]; omega
                simp only [List.length_append, be_length] at h1 ⊢
                omega
              obtain ⟨ws, hws⟩ : ∃ ws, ws = ((headA ⟨kind, request, item, qty, day, days, rank, lot, line, parts, others⟩ ++ (f.take pos).flatMap (encF ⟨kind, request, item, qty, day, days, rank, lot, line, parts, others⟩)) ++ (be 1 (others.length : Int) ++ (others.take j).flatMap putL)) := ⟨_, rfl⟩
              rw [← hws] at R6 hzj ⊢
              have hWS := Lib.hid hws
              have R6 := Lib.hid R6
              have hzj := Lib.hid hzj
              have hzj1 := hzj.out
              clear hws
              have a1 : wr.cell? ⟨ba, 10, none⟩ = some (.slice QA On Oc) := R6.out.aa.cell 10
              by_cases hlt : j < On
              · have hji : (j : Int) < (On : Int) := by omega
                obtain ⟨b, off, hA, hcell⟩ := (hIs.out.fresh R6.out.t).others.cells (show 0 < On by omega)
                simp only at hA
                subst hA
                have q0 := hcell j hlt
                unfold strV at q0
                have hsn := Lib.hid (show others.take (j + 1) = others.take j ++ [others.getD j []] from by
                  rw [List.take_succ_eq_append_getElem (by rw [hll.out]; exact hlt), List.getD_eq_getElem?_getD, List.getElem?_eq_getElem (by rw [hll.out]; exact hlt)]
                  rfl)
                have hcd := Lib.hid (putL_code (hob.out.2 (others.getD j []) (by rw [List.getD_eq_getElem?_getD, List.getElem?_eq_getElem (by rw [hll.out]; exact hlt)]; exact List.getElem_mem _)))
                have hio := Lib.hid (hOo (others.getD j []) (by rw [List.getD_eq_getElem?_getD, List.getElem?_eq_getElem (by rw [hll.out]; exact hlt)]; exact List.getElem_mem _))
                clear hcell
                generalize others.getD j [] = iv at *
                have hcd1 := hcd.out.1
                have hcd2 := hcd.out.2
                go_wp2_with fail
                refine (rcode_put_any iv wr hio.out).mono ?_
                rintro e W7 ⟨A7, c7, rfl, o7, g7, t7⟩
                have O7 := Lib.hid o7
                have R7 := Lib.hid (R6.out.fresh t7)
                clear o7 g7 t7 q0 a1
                generalize hml : (putL iv).length = ml at *
                have hml2 := Lib.hid hml
                clear hml
                go_wp2_with (at_builtin; refine wpList_appB rfl (.tmp 135) (.tmp 141) rfl R7.out.own O7.out (by omega) (by omega) rfl rfl ?_; intro A4 c4 w4 ho4 hor4; have R4 := Lib.hid (R7.out.app ho4 hor4); clear ho4 hor4)
                have hzn : ws.length + ml = (ws ++ putL iv).length := by rw [List.length_append, hml2.out]
                have FI := Lib.hid (show PuIn ⟨kind, request, item, qty, day, days, rank, lot, line, parts, others⟩ ⟨⟨PA, Pn, Pc⟩, ⟨some ⟨b, off, none⟩, On, Oc⟩⟩ w ba On (fun j => ((headA ⟨kind, request, item, qty, day, days, rank, lot, line, parts, others⟩ ++ (f.take pos).flatMap (encF ⟨kind, request, item, qty, day, days, rank, lot, line, parts, others⟩)) ++ (be 1 (others.length : Int) ++ (others.take j).flatMap putL))) (.slice A4 (ws.length + ml) c4) (.int .i64 ((j + 1 : Nat) : Int)) w4 from ⟨j + 1, A4, c4, hlt, rfl, by
                  rw [hzn, hWS.out]
                  show _ = Value.slice A4 ((headA ⟨kind, request, item, qty, day, days, rank, lot, line, parts, others⟩ ++ (f.take pos).flatMap (encF ⟨kind, request, item, qty, day, days, rank, lot, line, parts, others⟩)) ++ (be 1 (others.length : Int) ++ (others.take (j + 1)).flatMap putL)).length c4
                  rw [hsn.out, List.flatMap_append]
                  simp only [List.append_assoc, List.flatMap_cons, List.flatMap_nil, List.append_nil], by
                  show PuW _ _ _ _ _ _ ((headA ⟨kind, request, item, qty, day, days, rank, lot, line, parts, others⟩ ++ (f.take pos).flatMap (encF ⟨kind, request, item, qty, day, days, rank, lot, line, parts, others⟩)) ++ (be 1 (others.length : Int) ++ (others.take (j + 1)).flatMap putL)) _
                  rw [hsn.out, List.flatMap_append]
                  have h5 := R4.out
                  rw [hWS.out] at h5
                  simp only [List.append_assoc, List.flatMap_cons, List.flatMap_nil, List.append_nil] at h5 ⊢
                  exact h5⟩)
                clear hzn
                try go_wp2_with fail
                go_roundw
                case rel =>
                  first
                  | exact FI.out
                  | ((repeat apply Exists.intro); exact ⟨FI.out, rfl⟩)
                case measure => simp [intOf] <;> omega
              · have hge : (On : Int) ≤ (j : Int) := by omega
                have hjn : j = On := by omega
                have FI := Lib.hid (show PuRel ⟨kind, request, item, qty, day, days, rank, lot, line, parts, others⟩ ⟨⟨PA, Pn, Pc⟩, ⟨QA, On, Oc⟩⟩ f w ba (.slice A6 ws.length c6) (.int .i64 ((pos + 1 : Nat) : Int)) wr from PuRel.step (k := 111) hpl htk.out (by
                  rw [hWS.out, htl.out hjn]
                  rfl) R6.out)
                clear hjn
                go_wp2_with fail
                go_roundw
                case rel =>
                  first
                  | exact FI.out
                  | ((repeat apply Exists.intro); exact ⟨FI.out, rfl⟩)
                case measure => simp [intOf] <;> omega
        · have hge : (f.length : Int) ≤ (pos : Int) := by omega
          have htf : f.take pos = f := List.take_of_length_le (by omega)
          rw [htf, ← hpA.out] at R1 ⊢
          clear htf
          go_wp2_with fail
          go_ret2
          exact ⟨A, c, rfl, R1.out.own, by have := R1.out.ge; first | exact this | (rw [hba'.out] at this; exact this), R1.out.t⟩
end Go.Proofs.YtijmfglgeaaoaaaGreatDoor

