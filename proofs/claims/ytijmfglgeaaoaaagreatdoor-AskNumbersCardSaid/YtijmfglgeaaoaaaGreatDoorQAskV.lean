/-
  storemanref13.Get: the command that bytes begin with, as the document says. Condition: at most 1000000 bytes.
-/
import Derived.Test.YtijmfglgeaaoaaaGreatDoorQAskY
import Derived.Test.YtijmfglgeaaoaaaGreatDoorQAskE
namespace Go.Proofs.YtijmfglgeaaoaaaGreatDoor
open Go.RowKit Go.Maps
set_option linter.unusedVariables false
set_option linter.unusedSimpArgs false

set_option maxRecDepth 100000 in
set_option maxHeartbeats 16000000 in
theorem rask_get_any (A : Option Addr) (n c : Nat) (zs : List Int) (w : World) (h : BytS w A n c zs) (hb : ∀ z ∈ zs, isByte z) (hnc : n ≤ c) (hc : c ≤ maxLen) (hn : n ≤ 1000000) : Calls Tryz.prog 10 #[.slice A n c] w (AGet zs w) := by
  have mixed : Tryz.prog.follows .mixedOrders = true := by kernel_rfl
  have hbO : BytesO (some zs) := fun ys e y hy => by injection e with e; subst e; exact hb y hy
  have hlt : 0 < n → ∀ b o, A = some ⟨b, o, none⟩ → b < w.heap.size := fun h0 b o e => by
    obtain ⟨b2, o2, e2, hcl⟩ := h.cell h0
    rw [e] at e2
    injection e2 with e2
    injection e2 with e3 e4
    subst e3 e4
    exact World.block_lt_of_cell? w ⟨b, o + 0, none⟩ (hcl 0 h0)
  have T0 := Lib.hid (((Turned.refl (fun _ => False) w).alloc (.cells #[.int .u8 0, .int .i64 0, .string ⟨#[]⟩, .int .i64 0, .int .i64 0, .int .i64 0, .int .i64 0, .int .i64 0, .int .i64 0, .slice none 0 0, .slice none 0 0] 29)).alloc (.cells #[.slice A n c, .int .i64 0, .bool false] 58))
  have z1 : (w.alloc (.cells #[.int .u8 0, .int .i64 0, .string ⟨#[]⟩, .int .i64 0, .int .i64 0, .int .i64 0, .int .i64 0, .int .i64 0, .int .i64 0, .slice none 0 0, .slice none 0 0] 29)).heap.size = w.heap.size + 1 := by simp
  have G0 := Lib.hid (show DRd A n c zs w.heap.size (w.heap.size + 1) (some zs) 0 ((w.alloc (.cells #[.int .u8 0, .int .i64 0, .string ⟨#[]⟩, .int .i64 0, .int .i64 0, .int .i64 0, .int .i64 0, .int .i64 0, .int .i64 0, .slice none 0 0, .slice none 0 0] 29)).alloc (.cells #[.slice A n c, .int .i64 0, .bool false] 58)) from
    ⟨Blk.new_at _ _ _ z1, h.turned0 T0.out (fun _ _ _ _ e => e), Nat.zero_le _, fun r e => by injection e with e; subst e; rfl, hlt, by omega, hnc, hc, hn⟩)
  have B0 := Lib.hid (show Blk ((w.alloc (.cells #[.int .u8 0, .int .i64 0, .string ⟨#[]⟩, .int .i64 0, .int .i64 0, .int .i64 0, .int .i64 0, .int .i64 0, .int .i64 0, .slice none 0 0, .slice none 0 0] 29)).alloc (.cells #[.slice A n c, .int .i64 0, .bool false] 58)) w.heap.size 29 (askC AskV.zero AskS.nil) from (Blk.new w _ _).alloc _)
  have hk1 := numS1_byte (some zs) hbO
  have hrA := Lib.hid (show readA (some zs) = ((fieldsK (numS 1 (some zs)).1).getD []).foldl decF (startA (some zs)) from rfl)
  have hfw := Lib.hid (fun f => fold_few f (startA (some zs)) (numS_b (numS_b hbO)) (Nat.zero_le _))
  have hsz0 : w.heap.size + 1 < ((w.alloc (.cells #[.int .u8 0, .int .i64 0, .string ⟨#[]⟩, .int .i64 0, .int .i64 0, .int .i64 0, .int .i64 0, .int .i64 0, .int .i64 0, .slice none 0 0, .slice none 0 0] 29)).alloc (.cells #[.slice A n c, .int .i64 0, .bool false] 58)).heap.size := by simp
  clear z1 hlt h
  have hcm := hc
  unfold maxLen at hcm
  go_enter Tryz.func10, Tryz.ntmps10
  go_wp2_with fail
  refine (dnum_any A n c zs w.heap.size (w.heap.size + 1) (some zs) 0 1 _ G0.out hb (by omega) (by omega)).mono ?_
  rintro e w1 ⟨rfl, ⟨p1, g1⟩, t1⟩
  have T1 := Lib.hid (T0.out.trans t1 (W := fun _ => False) (fun _ e => e) (fun i e => .inr (by omega)))
  have B1 := Lib.hid (B0.out.turned t1 (fun e => by omega))
  have hs1 := t1.size
  have hlt1 : w.heap.size + 1 < w1.heap.size := by omega
  clear t1 B0 T0 G0 hs1 hsz0
  have G1 := Lib.hid g1
  clear g1
  generalize hr : w.heap.size + 1 = r at *
  obtain ⟨br, hbr⟩ : ∃ br, br = w.heap.size := ⟨_, rfl⟩
  have B1 : Hid (Blk w1 br 29 (askC AskV.zero AskS.nil)) := by rw [hbr]; exact B1
  have hbb := Lib.hid (show w.heap.size ≤ br ∧ w.heap.size ≤ r ∧ br ≠ r from by omega)
  obtain ⟨k1, hk1e⟩ : ∃ k1, k1 = (numS 1 (some zs)).1 := ⟨_, rfl⟩
  unfold isByte at hk1
  rw [← hk1e] at hk1 hrA ⊢
  have hst0 := Lib.hid (show startA (some zs) = (⟨k1, (numS 8 (numS 1 (some zs)).2).1, [], 0, 0, 0, 0, 0, 0, [], []⟩, (numS 8 (numS 1 (some zs)).2).2) from by rw [hk1e]; rfl)
  have hbr' := Lib.hid hbr
  clear hr
  clear hk1e
  have X1 := Lib.hid (Blk.new w1 29 (askC ⟨k1, 0, [], 0, 0, 0, 0, 0, 0, [], []⟩ AskS.nil))
  have tX := Lib.hid ((Turned.refl (fun _ => False) w1).alloc (.cells (askC ⟨k1, 0, [], 0, 0, 0, 0, 0, 0, [], []⟩ AskS.nil) 29))
  have T2 := Lib.hid (T1.out.and_ tX.out)
  have G2 := Lib.hid (G1.out.fresh tX.out)
  have B2 := Lib.hid (B1.out.turned tX.out (fun e => e))
  go_wp2_with fail
  rw [← hbr]
  refine (dnum_any A n c zs w.heap.size r _ p1 8 _ G2.out hb (by omega) (by omega)).mono ?_
  rintro e w2 ⟨rfl, ⟨p2, g2⟩, t2⟩
  have hv2 := numS_i64 8 (numS 1 (some zs)).2
  have T3 := Lib.hid (T2.out.trans t2 (W := fun _ => False) (fun _ e => e) (fun i e => .inr (by have := hbb.out; omega)))
  have B3 := Lib.hid (B2.out.turned t2 (fun e => hbb.out.2.2 e))
  have X3 := Lib.hid (X1.out.turned t2 (fun e => by omega))
  have hwx : w.heap.size ≤ w1.heap.size := T1.out.size
  have hrx : br ≠ w1.heap.size := by have := hbb.out; omega
  have G3 := Lib.hid g2
  clear g2 t2 T1 T2 B1 B2 X1 tX G1 G2 hbr
  generalize (numS 8 (numS 1 (some zs)).2).1 = v2 at *
  generalize (numS 8 (numS 1 (some zs)).2).2 = s2 at *
  generalize w1.heap.size = bx at *
  have D2 := Lib.hid (show DGt A n c zs w r br bx ⟨k1, 0, [], 0, 0, 0, 0, 0, 0, [], []⟩ AskS.nil s2 p2 w2 from ⟨G3.out, X3.out, ⟨OwnE.nil _ _ _, OwnE.nil _ _ _, (fun g e => by cases e), (fun g e => by cases e)⟩, B3.out, ⟨hk1, by unfold I64; simp, by unfold strOk; simp, by unfold I64; simp, by unfold I64; simp, by unfold I64; simp, by unfold I64; simp, by unfold I64; simp, by unfold I64; simp, by simp, by simp⟩, hwx, hrx, T3.out⟩)
  have x1 : w2.cell? ⟨bx, 1, none⟩ = some (.int .i64 0) := D2.out.aa.cell 1
  have xf := D2.out.aa.frozen 1
  have D3 := Lib.hid (show DGt A n c zs w r br bx ⟨k1, v2, [], 0, 0, 0, 0, 0, 0, [], []⟩ AskS.nil s2 p2 (w2.setCell ⟨bx, 1, none⟩ (.int .i64 v2)) from D2.out.store 1 (.int .i64 v2) rfl ⟨OwnE.nil _ _ _, OwnE.nil _ _ _, (fun g e => by cases e), (fun g e => by cases e)⟩ ⟨hk1, hv2, by unfold strOk; simp, by unfold I64; simp, by unfold I64; simp, by unfold I64; simp, by unfold I64; simp, by unfold I64; simp, by unfold I64; simp, by simp, by simp⟩)
  have y0 : (w2.setCell ⟨bx, 1, none⟩ (.int .i64 v2)).cell? ⟨bx, 0, none⟩ = some (.int .u8 k1) := D3.out.aa.cell 0
  have hF := Lib.hid (fun (w' : World) => rfields_any k1 w' hk1)
  rw [fieldsV_all k1] at hF
  have hfk := fieldsK_all k1
  generalize hff : (fieldsK k1).getD [] = f at *
  generalize (fieldsK k1).isSome = fis at *
  have hfl := (kinds_letters hfk).1
  clear hff G3 X3 B3 T3 D2
  unfold I64 at hv2
  go_wp2_with fail
  refine (hF.out _).mono ?_
  rintro e w3 ⟨rfl, rfl⟩
  clear y0 x1 xf hF
  have hst := Lib.hid (show DGRel A n c zs w r br bx f (.int .i64 0) _ from ⟨0, _, AskS.nil, s2, p2, Nat.zero_le _, rfl, D3.out, hst0.out⟩)
  have hsz := fBA_size f
  have hszi : ((fBA f).size : Int) = (f.length : Int) := by rw [hsz]
  clear D3 hst0 hwx hrx hlt1
  generalize w2.setCell ⟨bx, 1, none⟩ (.int .i64 v2) = w3 at *
  clear hv2
  go_wp2_with fail
  go_loopw [9] (fun i wr => DGRel A n c zs w r br bx f i wr) (fun i _ => f.length - (intOf i).toNat)
  case atStart => exact hst.out
  case round =>
    obtain ⟨pos, x, S, s, pz, hpl0, rfl, hW, hx0⟩ := hrel
    clear hst
    have hx := Lib.hid hx0
    have R1 := Lib.hid hW
    clear hx0 hW
    obtain ⟨xk, xr, xi, xq, xd, xl, xa, xt, xn, xp, xo⟩ := x
    obtain ⟨⟨PA, Pn, Pc⟩, ⟨QA, On, Oc⟩⟩ := S
    by_cases hpl : pos < f.length
    · have hp : pos < (fBA f).size := by omega
      have hpi : (pos : Int) < (f.length : Int) := by omega
      obtain ⟨k, hcm2, hcv, htk0, h128⟩ := letter_at hfk hp
      have htk := Lib.hid htk0
      clear htk0
      unfold letters at hcm2
      simp only [List.mem_cons, List.not_mem_nil, or_false] at hcm2
      rcases hcm2 with rfl | rfl | rfl | rfl | rfl | rfl | rfl | rfl | rfl
      · have hd := Lib.hid (show decF (⟨xk, xr, xi, xq, xd, xl, xa, xt, xn, xp, xo⟩, s) 105 = (⟨xk, xr, (codeS s).1, xq, xd, xl, xa, xt, xn, xp, xo⟩, (codeS s).2) from rfl)
        have hv := codeS_ok s (R1.out.bytes hb)
        go_wp2_with fail
        refine (dcode_any A n c zs w.heap.size r s pz wr R1.out.get hb).mono ?_
        rintro e W2 ⟨rfl, ⟨pz2, g2⟩, t2⟩
        have R2 := Lib.hid (R1.out.tk g2 t2)
        clear g2 t2 R1
        generalize (codeS s).1 = v at *
        generalize (codeS s).2 = s2 at *
        unfold strV
        have b0 : W2.cell? ⟨bx, 2, none⟩ = some (.string ⟨xi.toArray⟩) := R2.out.aa.cell 2
        have f0 := R2.out.aa.frozen 2
        have FI := Lib.hid (DGRel.step (k := 105) hpl htk.out hx.out hd.out (R2.out.store (x' := ⟨xk, xr, v, xq, xd, xl, xa, xt, xn, xp, xo⟩) (S' := ⟨⟨PA, Pn, Pc⟩, ⟨QA, On, Oc⟩⟩) 2 (.string ⟨v.toArray⟩) rfl ⟨R2.out.own.parts, R2.out.own.others, R2.out.own.pB, R2.out.own.oB⟩ ⟨R2.out.ok.kind, R2.out.ok.request, hv, R2.out.ok.qty, R2.out.ok.day, R2.out.ok.days, R2.out.ok.rank, R2.out.ok.lot, R2.out.ok.line, R2.out.ok.parts, R2.out.ok.others⟩))
        clear R2
        go_wp2_with fail
        go_roundw
        case rel =>
          first
          | exact FI.out
          | ((repeat apply Exists.intro); exact ⟨FI.out, rfl⟩)
        case measure => simp [intOf] <;> omega
      · have hd := Lib.hid (show decF (⟨xk, xr, xi, xq, xd, xl, xa, xt, xn, xp, xo⟩, s) 113 = (⟨xk, xr, xi, (numS 8 s).1, xd, xl, xa, xt, xn, xp, xo⟩, (numS 8 s).2) from rfl)
        have hv := numS_i64 8 s
        go_wp2_with fail
        refine (dnum_any A n c zs w.heap.size r s pz 8 wr R1.out.get hb (by omega) (by omega)).mono ?_
        rintro e W2 ⟨rfl, ⟨pz2, g2⟩, t2⟩
        have R2 := Lib.hid (R1.out.tk g2 t2)
        clear g2 t2 R1
        generalize (numS 8 s).1 = v at *
        generalize (numS 8 s).2 = s2 at *
        unfold I64 at hv
        have b0 : W2.cell? ⟨bx, 3, none⟩ = some (.int .i64 xq) := R2.out.aa.cell 3
        have f0 := R2.out.aa.frozen 3
        have FI := Lib.hid (DGRel.step (k := 113) hpl htk.out hx.out hd.out (R2.out.store (x' := ⟨xk, xr, xi, v, xd, xl, xa, xt, xn, xp, xo⟩) (S' := ⟨⟨PA, Pn, Pc⟩, ⟨QA, On, Oc⟩⟩) 3 (.int .i64 v) rfl ⟨R2.out.own.parts, R2.out.own.others, R2.out.own.pB, R2.out.own.oB⟩ ⟨R2.out.ok.kind, R2.out.ok.request, R2.out.ok.item, hv, R2.out.ok.day, R2.out.ok.days, R2.out.ok.rank, R2.out.ok.lot, R2.out.ok.line, R2.out.ok.parts, R2.out.ok.others⟩))
        clear R2
        go_wp2_with fail
        go_roundw
        case rel =>
          first
          | exact FI.out
          | ((repeat apply Exists.intro); exact ⟨FI.out, rfl⟩)
        case measure => simp [intOf] <;> omega
      · have hd := Lib.hid (show decF (⟨xk, xr, xi, xq, xd, xl, xa, xt, xn, xp, xo⟩, s) 100 = (⟨xk, xr, xi, xq, (numS 2 s).1, xl, xa, xt, xn, xp, xo⟩, (numS 2 s).2) from rfl)
        have hv := numS_i64 2 s
        go_wp2_with fail
        refine (dnum_any A n c zs w.heap.size r s pz 2 wr R1.out.get hb (by omega) (by omega)).mono ?_
        rintro e W2 ⟨rfl, ⟨pz2, g2⟩, t2⟩
        have R2 := Lib.hid (R1.out.tk g2 t2)
        clear g2 t2 R1
        generalize (numS 2 s).1 = v at *
        generalize (numS 2 s).2 = s2 at *
        unfold I64 at hv
        have b0 : W2.cell? ⟨bx, 4, none⟩ = some (.int .i64 xd) := R2.out.aa.cell 4
        have f0 := R2.out.aa.frozen 4
        have FI := Lib.hid (DGRel.step (k := 100) hpl htk.out hx.out hd.out (R2.out.store (x' := ⟨xk, xr, xi, xq, v, xl, xa, xt, xn, xp, xo⟩) (S' := ⟨⟨PA, Pn, Pc⟩, ⟨QA, On, Oc⟩⟩) 4 (.int .i64 v) rfl ⟨R2.out.own.parts, R2.out.own.others, R2.out.own.pB, R2.out.own.oB⟩ ⟨R2.out.ok.kind, R2.out.ok.request, R2.out.ok.item, R2.out.ok.qty, hv, R2.out.ok.days, R2.out.ok.rank, R2.out.ok.lot, R2.out.ok.line, R2.out.ok.parts, R2.out.ok.others⟩))
        clear R2
        go_wp2_with fail
        go_roundw
        case rel =>
          first
          | exact FI.out
          | ((repeat apply Exists.intro); exact ⟨FI.out, rfl⟩)
        case measure => simp [intOf] <;> omega
      · have hd := Lib.hid (show decF (⟨xk, xr, xi, xq, xd, xl, xa, xt, xn, xp, xo⟩, s) 108 = (⟨xk, xr, xi, xq, xd, (numS 2 s).1, xa, xt, xn, xp, xo⟩, (numS 2 s).2) from rfl)
        have hv := numS_i64 2 s
        go_wp2_with fail
        refine (dnum_any A n c zs w.heap.size r s pz 2 wr R1.out.get hb (by omega) (by omega)).mono ?_
        rintro e W2 ⟨rfl, ⟨pz2, g2⟩, t2⟩
        have R2 := Lib.hid (R1.out.tk g2 t2)
        clear g2 t2 R1
        generalize (numS 2 s).1 = v at *
        generalize (numS 2 s).2 = s2 at *
        unfold I64 at hv
        have b0 : W2.cell? ⟨bx, 5, none⟩ = some (.int .i64 xl) := R2.out.aa.cell 5
        have f0 := R2.out.aa.frozen 5
        have FI := Lib.hid (DGRel.step (k := 108) hpl htk.out hx.out hd.out (R2.out.store (x' := ⟨xk, xr, xi, xq, xd, v, xa, xt, xn, xp, xo⟩) (S' := ⟨⟨PA, Pn, Pc⟩, ⟨QA, On, Oc⟩⟩) 5 (.int .i64 v) rfl ⟨R2.out.own.parts, R2.out.own.others, R2.out.own.pB, R2.out.own.oB⟩ ⟨R2.out.ok.kind, R2.out.ok.request, R2.out.ok.item, R2.out.ok.qty, R2.out.ok.day, hv, R2.out.ok.rank, R2.out.ok.lot, R2.out.ok.line, R2.out.ok.parts, R2.out.ok.others⟩))
        clear R2
        go_wp2_with fail
        go_roundw
        case rel =>
          first
          | exact FI.out
          | ((repeat apply Exists.intro); exact ⟨FI.out, rfl⟩)
        case measure => simp [intOf] <;> omega
      · have hd := Lib.hid (show decF (⟨xk, xr, xi, xq, xd, xl, xa, xt, xn, xp, xo⟩, s) 114 = (⟨xk, xr, xi, xq, xd, xl, (numS 1 s).1, xt, xn, xp, xo⟩, (numS 1 s).2) from rfl)
        have hv := numS_i64 1 s
        go_wp2_with fail
        refine (dnum_any A n c zs w.heap.size r s pz 1 wr R1.out.get hb (by omega) (by omega)).mono ?_
        rintro e W2 ⟨rfl, ⟨pz2, g2⟩, t2⟩
        have R2 := Lib.hid (R1.out.tk g2 t2)
        clear g2 t2 R1
        generalize (numS 1 s).1 = v at *
        generalize (numS 1 s).2 = s2 at *
        unfold I64 at hv
        have b0 : W2.cell? ⟨bx, 6, none⟩ = some (.int .i64 xa) := R2.out.aa.cell 6
        have f0 := R2.out.aa.frozen 6
        have FI := Lib.hid (DGRel.step (k := 114) hpl htk.out hx.out hd.out (R2.out.store (x' := ⟨xk, xr, xi, xq, xd, xl, v, xt, xn, xp, xo⟩) (S' := ⟨⟨PA, Pn, Pc⟩, ⟨QA, On, Oc⟩⟩) 6 (.int .i64 v) rfl ⟨R2.out.own.parts, R2.out.own.others, R2.out.own.pB, R2.out.own.oB⟩ ⟨R2.out.ok.kind, R2.out.ok.request, R2.out.ok.item, R2.out.ok.qty, R2.out.ok.day, R2.out.ok.days, hv, R2.out.ok.lot, R2.out.ok.line, R2.out.ok.parts, R2.out.ok.others⟩))
        clear R2
        go_wp2_with fail
        go_roundw
        case rel =>
          first
          | exact FI.out
          | ((repeat apply Exists.intro); exact ⟨FI.out, rfl⟩)
        case measure => simp [intOf] <;> omega
      · have hd := Lib.hid (show decF (⟨xk, xr, xi, xq, xd, xl, xa, xt, xn, xp, xo⟩, s) 116 = (⟨xk, xr, xi, xq, xd, xl, xa, (numS 8 s).1, xn, xp, xo⟩, (numS 8 s).2) from rfl)
        have hv := numS_i64 8 s
        go_wp2_with fail
        refine (dnum_any A n c zs w.heap.size r s pz 8 wr R1.out.get hb (by omega) (by omega)).mono ?_
        rintro e W2 ⟨rfl, ⟨pz2, g2⟩, t2⟩
        have R2 := Lib.hid (R1.out.tk g2 t2)
        clear g2 t2 R1
        generalize (numS 8 s).1 = v at *
        generalize (numS 8 s).2 = s2 at *
        unfold I64 at hv
        have b0 : W2.cell? ⟨bx, 7, none⟩ = some (.int .i64 xt) := R2.out.aa.cell 7
        have f0 := R2.out.aa.frozen 7
        have FI := Lib.hid (DGRel.step (k := 116) hpl htk.out hx.out hd.out (R2.out.store (x' := ⟨xk, xr, xi, xq, xd, xl, xa, v, xn, xp, xo⟩) (S' := ⟨⟨PA, Pn, Pc⟩, ⟨QA, On, Oc⟩⟩) 7 (.int .i64 v) rfl ⟨R2.out.own.parts, R2.out.own.others, R2.out.own.pB, R2.out.own.oB⟩ ⟨R2.out.ok.kind, R2.out.ok.request, R2.out.ok.item, R2.out.ok.qty, R2.out.ok.day, R2.out.ok.days, R2.out.ok.rank, hv, R2.out.ok.line, R2.out.ok.parts, R2.out.ok.others⟩))
        clear R2
        go_wp2_with fail
        go_roundw
        case rel =>
          first
          | exact FI.out
          | ((repeat apply Exists.intro); exact ⟨FI.out, rfl⟩)
        case measure => simp [intOf] <;> omega
      · have hd := Lib.hid (show decF (⟨xk, xr, xi, xq, xd, xl, xa, xt, xn, xp, xo⟩, s) 110 = (⟨xk, xr, xi, xq, xd, xl, xa, xt, (numS 8 s).1, xp, xo⟩, (numS 8 s).2) from rfl)
        have hv := numS_i64 8 s
        go_wp2_with fail
        refine (dnum_any A n c zs w.heap.size r s pz 8 wr R1.out.get hb (by omega) (by omega)).mono ?_
        rintro e W2 ⟨rfl, ⟨pz2, g2⟩, t2⟩
        have R2 := Lib.hid (R1.out.tk g2 t2)
        clear g2 t2 R1
        generalize (numS 8 s).1 = v at *
        generalize (numS 8 s).2 = s2 at *
        unfold I64 at hv
        have b0 : W2.cell? ⟨bx, 8, none⟩ = some (.int .i64 xn) := R2.out.aa.cell 8
        have f0 := R2.out.aa.frozen 8
        have FI := Lib.hid (DGRel.step (k := 110) hpl htk.out hx.out hd.out (R2.out.store (x' := ⟨xk, xr, xi, xq, xd, xl, xa, xt, v, xp, xo⟩) (S' := ⟨⟨PA, Pn, Pc⟩, ⟨QA, On, Oc⟩⟩) 8 (.int .i64 v) rfl ⟨R2.out.own.parts, R2.out.own.others, R2.out.own.pB, R2.out.own.oB⟩ ⟨R2.out.ok.kind, R2.out.ok.request, R2.out.ok.item, R2.out.ok.qty, R2.out.ok.day, R2.out.ok.days, R2.out.ok.rank, R2.out.ok.lot, hv, R2.out.ok.parts, R2.out.ok.others⟩))
        clear R2
        go_wp2_with fail
        go_roundw
        case rel =>
          first
          | exact FI.out
          | ((repeat apply Exists.intro); exact ⟨FI.out, rfl⟩)
        case measure => simp [intOf] <;> omega
      · have hnil := Lib.hid (show xp = [] from by
          have h1 := (fold_lists (f.take pos) (startA (some zs))).1 (not_before (kinds_nodup hfk) htk.out)
          rw [hx.out] at h1
          exact h1)
        have hbS := R1.out.bytes hb
        obtain ⟨k0, hk0, hk255⟩ : ∃ k0 : Nat, (numS 1 s).1 = (k0 : Int) ∧ k0 ≤ 255 := ⟨(numS 1 s).1.toNat, by have := numS1_byte s hbS; unfold isByte at this; omega, by have := numS1_byte s hbS; unfold isByte at this; omega⟩
        have hd := Lib.hid (show decF (⟨xk, xr, xi, xq, xd, xl, xa, xt, xn, xp, xo⟩, s) 112 = (⟨xk, xr, xi, xq, xd, xl, xa, xt, xn, (partsS k0 (numS 1 s).2).1, xo⟩, (partsS k0 (numS 1 s).2).2) from by
          have e : decF (⟨xk, xr, xi, xq, xd, xl, xa, xt, xn, xp, xo⟩, s) 112 = (⟨xk, xr, xi, xq, xd, xl, xa, xt, xn, (partsS (numS 1 s).1.toNat (numS 1 s).2).1, xo⟩, (partsS (numS 1 s).1.toNat (numS 1 s).2).2) := rfl
          rw [e, hk0, Int.toNat_natCast])
        have hb1 := numS_b (k := 1) hbS
        go_wp2_with fail
        refine (dnum_any A n c zs w.heap.size r s pz 1 wr R1.out.get hb (by omega) (by omega)).mono ?_
        rw [hk0]
        rintro e W2 ⟨rfl, ⟨pz2, g2⟩, t2⟩
        have R2 := Lib.hid (R1.out.tk g2 t2)
        clear g2 t2 R1 hk0
        generalize (numS 1 s).2 = s1 at *
        have hst : DGLRel A n c zs w r br bx (fun l => ⟨xk, xr, xi, xq, xd, xl, xa, xt, xn, l, xo⟩) (fun k s => (partsS k s).1) (fun k s => (partsS k s).2) k0 s1 (.int .i64 (k0 : Int)) W2 := ⟨[], k0, ⟨⟨PA, Pn, Pc⟩, ⟨QA, On, Oc⟩⟩, s1, pz2, rfl, by have h5 := R2.out; rw [hnil.out] at h5; exact h5, by simp, by simp; omega⟩
        have hst := Lib.hid hst
        clear R2
        go_wp2_with fail
        obtain ⟨wo, hwo⟩ : ∃ wo : World, wo = W2 := ⟨_, rfl⟩
        clear hwo wo
        go_loopw [10] (fun i wr => DGLRel A n c zs w r br bx (fun l => ⟨xk, xr, xi, xq, xd, xl, xa, xt, xn, l, xo⟩) (fun k s => (partsS k s).1) (fun k s => (partsS k s).2) k0 s1 i wr) (fun i _ => (intOf i).toNat)
        case atStart => exact hst.out
        case round =>
          obtain ⟨l, k, S6, s6, pz6, rfl, R6, he, hlk⟩ := hrel
          have R6 : DGt A n c zs w r br bx ⟨xk, xr, xi, xq, xd, xl, xa, xt, xn, l, xo⟩ S6 s6 pz6 wr := R6
          have R6 := Lib.hid R6
          have he : ((partsS k0 s1).1, (partsS k0 s1).2) = (l ++ (partsS k s6).1, (partsS k s6).2) := he
          have he := Lib.hid he
          obtain ⟨⟨PA, Pn, Pc⟩, ⟨QA, On, Oc⟩⟩ := S6
          clear hst
          have kk := R6.out.get.blk.cell 2
          simp only [List.getElem?_toArray, List.getElem?_cons_zero, List.getElem?_cons_succ] at kk
          by_cases hk : 0 < k
          · have hki : (0 : Int) < (k : Int) := by omega
            cases s6 with
            | none =>
              simp only [Option.isNone_none] at kk
              rw [partsS_stop k none (.inr rfl)] at he
              simp only [List.append_nil] at he
              have FI := Lib.hid (DGRel.step (k := 112) (x' := ⟨xk, xr, xi, xq, xd, xl, xa, xt, xn, l, xo⟩) (s' := none) hpl htk.out hx.out (by
                have q1 := congrArg Prod.fst he.out
                have q2 := congrArg Prod.snd he.out
                simp only at q1 q2
                rw [hd.out, q1, q2]) R6.out)
              clear he hd
              go_wp2_with fail
              go_roundw
              case rel =>
                first
                | exact FI.out
                | ((repeat apply Exists.intro); exact ⟨FI.out, rfl⟩)
              case measure => simp [intOf] <;> omega
            | some r6 =>
              simp only [Option.isNone_some] at kk
              obtain ⟨k', rfl⟩ : ∃ k', k = k' + 1 := ⟨k - 1, by omega⟩
              have hbs := R6.out.bytes hb
              have hlN := Lib.hid (show l.length = Pn from by
                have h5 := R6.out.own.parts.len
                rw [partC_length] at h5
                simp only at h5
                omega)
              have hNN : Pn ≤ 255 := by have h5 := hlN.out; omega
              have hst2 := Lib.hid (show partsS (k' + 1) (some r6) = (((codeS (some r6)).1, (numS 8 (codeS (some r6)).2).1) :: (partsS k' (numS 8 (codeS (some r6)).2).2).1, (partsS k' (numS 8 (codeS (some r6)).2).2).2) from rfl)
              have hiv := codeS_ok (some r6) hbs
              have hbc := codeS_b hbs
              have hqv := numS_i64 8 (codeS (some r6)).2
              go_wp2_with fail
              refine (dcode_any A n c zs w.heap.size r (some r6) pz6 wr R6.out.get hb).mono ?_
              rintro e W3 ⟨rfl, ⟨pz3, g3⟩, t3⟩
              have R3 := Lib.hid (R6.out.tk g3 t3)
              clear g3 t3 R6 kk
              unfold strV
              go_wp2_with fail
              refine wp_region_ts (fun _ => True) (tsT [0, 2, 3] (.two 1 4 (.run 4 (.take 5 (.run 6 (.run 7 (.take 8 (.run 9 .nil)))))) (.take 5 (.two 1 6 (.run 6 (.run 7 (.take 8 (.run 9 .nil)))) (.run 1 (.run 7 (.take 8 (.run 9 .nil)))))))) mixed (by kernel_rfl) (fun _ _ _ _ _ h => h) ?_
              simp only [tsT, tsF, List.foldr_cons, List.foldr_nil, Ts.map, List.getElem?_cons_zero, List.getElem?_cons_succ]
              have DD := Lib.hid (R3.out.fresh ((Turned.refl (fun _ => False) W3).drew))
              iterate 3 (refine ts_take (v := ?_) trivial rfl (fun w' hw => ?_) ?_; rotate_left; (focus (go_simp; (try with_reducible rfl); done)); try simp only [Act.put, List.setIfInBounds_toArray, List.set_cons_zero, List.set_cons_succ])
              obtain ⟨wd, hwd⟩ : ∃ wd, wd = W3.drew := ⟨_, rfl⟩
              rw [← hwd] at DD ⊢
              clear hwd R3
              refine ts_two ?_ ?_
              · refine now_run rfl (fun K hK => ?_)
                have x9 : _ = some (Value.slice PA Pn Pc) := DD.out.aa.cell 9
                go_simp
                refine hK.out _ _ trivial ?_
                clear hK K x9
                refine ts_run rfl (fun K hK => ?_)
                go_simp
                refine (dnum_any A n c zs w.heap.size r (codeS (some r6)).2 pz3 8 wd DD.out.get hb (by omega) (by omega)).mono ?_
                rintro e W5 ⟨rfl, ⟨pz5, g5⟩, t5⟩
                have D5 := Lib.hid (DD.out.tk g5 t5)
                clear g5 t5 DD
                refine hK.out _ _ trivial ?_
                clear hK K
                generalize (numS 8 (codeS (some r6)).2).1 = qv at *
                generalize (numS 8 (codeS (some r6)).2).2 = s9 at *
                generalize (codeS (some r6)).1 = iv at *
                (refine ts_take (v := ?_) trivial rfl (fun w' hw => ?_) ?_; rotate_left; (focus (go_simp; (try with_reducible rfl); done)); try simp only [Act.put, List.setIfInBounds_toArray, List.set_cons_zero, List.set_cons_succ])
                refine ts_run rfl (fun K hK => ?_)
                go_simp
                refine hK.out _ _ trivial ?_
                clear hK K
                refine ts_run rfl (fun K hK => ?_)
                refine wp_appE partT (.tmp 91) (.tmp 96) rfl (show OwnE _ 55 2 PA Pn Pc (partC l) from D5.out.own.parts.fresh ((Turned.refl (fun _ => False) W5).alloc (.cells #[.string ⟨iv.toArray⟩, .int .i64 qv] 55))) ⟨W5.heap.size, 0, none⟩ 1 1 [.string ⟨iv.toArray⟩, .int .i64 qv] rfl (news_new2 W5 55 _ _) (by simp [Value.oneCell']) (by omega) (by unfold maxLen; omega) (by omega) rfl rfl ?_
                intro A9 c9 W9 ho9 hor9
                refine hK.out _ _ trivial ?_
                clear hK K
                try simp only [Act.put, List.setIfInBounds_toArray, List.set_cons_zero, List.set_cons_succ]
                have D6 := Lib.hid (D5.out.fresh ((Turned.refl (fun _ => False) W5).alloc (.cells #[.string ⟨iv.toArray⟩, .int .i64 qv] 55)))
                have hAA := D6.out.aa.turned hor9.turned (fun e => D6.out.own.parts.blk D6.out.aa (by decide) e rfl)
                have y9 : _ = some (Value.slice PA Pn Pc) := hAA.cell 9
                have yf := hAA.frozen 9
                have R9 := Lib.hid (D6.out.grow (x' := ⟨xk, xr, xi, xq, xd, xl, xa, xt, xn, l ++ [(iv, qv)], xo⟩) (S' := ⟨⟨A9, Pn + 1, c9⟩, ⟨QA, On, Oc⟩⟩) hor9.turned (fun i e => .inl e) 9 (.slice A9 (Pn + 1) c9) rfl ⟨by rw [partC_append]; exact ho9, D6.out.own.others.turned hor9.turned (fun g e e2 => by
                  obtain ⟨b1, r1⟩ := (e ▸ D6.out.own.others : OwnE _ 9 1 (some ⟨g, 0, none⟩) On Oc _).row.row
                  exact D6.out.own.parts.blk r1.1 (by decide) e2 rfl), fun g e => (hor9.at_ (Nat.le_trans D5.out.t.size (by simp))).elim (fun h => D5.out.own.pB g (by rw [← h.1]; exact e)) (fun ⟨g2, h1, h2⟩ => by rw [h1] at e; injection e with e; injection e with e; omega), D5.out.own.oB⟩ ⟨D6.out.ok.kind, D6.out.ok.request, D6.out.ok.item, D6.out.ok.qty, D6.out.ok.day, D6.out.ok.days, D6.out.ok.rank, D6.out.ok.lot, D6.out.ok.line, (fun p hp => by
                  rcases List.mem_append.1 hp with hp | hp
                  · exact D6.out.ok.parts p hp
                  · simp only [List.mem_singleton] at hp
                    subst hp
                    exact ⟨hiv, hqv⟩), D6.out.ok.others⟩)
                clear hAA ho9 hor9 D5 D6
                (refine ts_take (v := ?_) trivial rfl (fun w' hw => ?_) ?_; rotate_left; (focus (go_simp; (try with_reducible rfl); done)); try simp only [Act.put, List.setIfInBounds_toArray, List.set_cons_zero, List.set_cons_succ])
                refine ts_run rfl (fun K hK => ?_)
                go_simp
                refine hK.out _ _ trivial ?_
                clear hK K
                refine ts_nil ?_
                generalize W9.setCell ⟨bx, 9, none⟩ (.slice A9 (Pn + 1) c9) = W10 at *
                have FI := Lib.hid (show DGLRel A n c zs w r br bx (fun l => ⟨xk, xr, xi, xq, xd, xl, xa, xt, xn, l, xo⟩) (fun k s => (partsS k s).1) (fun k s => (partsS k s).2) k0 s1 (.int .i64 (k' : Int)) W10 from ⟨_, k', _, _, _, rfl, R9.out, by
                  show ((partsS k0 s1).1, (partsS k0 s1).2) = (_ ++ (partsS k' s9).1, (partsS k' s9).2)
                  rw [he.out, hst2.out]
                  simp, by simp; omega⟩)
                clear R9 y9 yf
                have hkm : Value.int .i64 (((k' : Int) + 1) - 1) = .int .i64 (k' : Int) := by congr 1; omega
                have hkm := Lib.hid hkm
                go_wp2_with fail
                go_roundw
                case rel =>
                  first
                  | exact FI.out
                  | ((repeat apply Exists.intro); exact ⟨FI.out, rfl⟩)
                case measure => simp [intOf] <;> omega
              · refine now_run rfl (fun K hK => ?_)
                go_simp
                refine (dnum_any A n c zs w.heap.size r (codeS (some r6)).2 pz3 8 wd DD.out.get hb (by omega) (by omega)).mono ?_
                rintro e W5 ⟨rfl, ⟨pz5, g5⟩, t5⟩
                have D5 := Lib.hid (DD.out.tk g5 t5)
                clear g5 t5 DD
                refine hK.out _ _ trivial ?_
                clear hK K
                generalize (numS 8 (codeS (some r6)).2).1 = qv at *
                generalize (numS 8 (codeS (some r6)).2).2 = s9 at *
                generalize (codeS (some r6)).1 = iv at *
                (refine ts_take (v := ?_) trivial rfl (fun w' hw => ?_) ?_; rotate_left; (focus (go_simp; (try with_reducible rfl); done)); try simp only [Act.put, List.setIfInBounds_toArray, List.set_cons_zero, List.set_cons_succ])
                refine ts_two ?_ ?_
                · refine now_run rfl (fun K hK => ?_)
                  have x9 : _ = some (Value.slice PA Pn Pc) := D5.out.aa.cell 9
                  go_simp
                  refine hK.out _ _ trivial ?_
                  clear hK K x9
                  refine ts_run rfl (fun K hK => ?_)
                  go_simp
                  refine hK.out _ _ trivial ?_
                  clear hK K
                  refine ts_run rfl (fun K hK => ?_)
                  refine wp_appE partT (.tmp 91) (.tmp 96) rfl (show OwnE _ 55 2 PA Pn Pc (partC l) from D5.out.own.parts.fresh ((Turned.refl (fun _ => False) W5).alloc (.cells #[.string ⟨iv.toArray⟩, .int .i64 qv] 55))) ⟨W5.heap.size, 0, none⟩ 1 1 [.string ⟨iv.toArray⟩, .int .i64 qv] rfl (news_new2 W5 55 _ _) (by simp [Value.oneCell']) (by omega) (by unfold maxLen; omega) (by omega) rfl rfl ?_
                  intro A9 c9 W9 ho9 hor9
                  refine hK.out _ _ trivial ?_
                  clear hK K
                  try simp only [Act.put, List.setIfInBounds_toArray, List.set_cons_zero, List.set_cons_succ]
                  have D6 := Lib.hid (D5.out.fresh ((Turned.refl (fun _ => False) W5).alloc (.cells #[.string ⟨iv.toArray⟩, .int .i64 qv] 55)))
                  have hAA := D6.out.aa.turned hor9.turned (fun e => D6.out.own.parts.blk D6.out.aa (by decide) e rfl)
                  have y9 : _ = some (Value.slice PA Pn Pc) := hAA.cell 9
                  have yf := hAA.frozen 9
                  have R9 := Lib.hid (D6.out.grow (x' := ⟨xk, xr, xi, xq, xd, xl, xa, xt, xn, l ++ [(iv, qv)], xo⟩) (S' := ⟨⟨A9, Pn + 1, c9⟩, ⟨QA, On, Oc⟩⟩) hor9.turned (fun i e => .inl e) 9 (.slice A9 (Pn + 1) c9) rfl ⟨by rw [partC_append]; exact ho9, D6.out.own.others.turned hor9.turned (fun g e e2 => by
                    obtain ⟨b1, r1⟩ := (e ▸ D6.out.own.others : OwnE _ 9 1 (some ⟨g, 0, none⟩) On Oc _).row.row
                    exact D6.out.own.parts.blk r1.1 (by decide) e2 rfl), fun g e => (hor9.at_ (Nat.le_trans D5.out.t.size (by simp))).elim (fun h => D5.out.own.pB g (by rw [← h.1]; exact e)) (fun ⟨g2, h1, h2⟩ => by rw [h1] at e; injection e with e; injection e with e; omega), D5.out.own.oB⟩ ⟨D6.out.ok.kind, D6.out.ok.request, D6.out.ok.item, D6.out.ok.qty, D6.out.ok.day, D6.out.ok.days, D6.out.ok.rank, D6.out.ok.lot, D6.out.ok.line, (fun p hp => by
                    rcases List.mem_append.1 hp with hp | hp
                    · exact D6.out.ok.parts p hp
                    · simp only [List.mem_singleton] at hp
                      subst hp
                      exact ⟨hiv, hqv⟩), D6.out.ok.others⟩)
                  clear hAA ho9 hor9 D5 D6
                  (refine ts_take (v := ?_) trivial rfl (fun w' hw => ?_) ?_; rotate_left; (focus (go_simp; (try with_reducible rfl); done)); try simp only [Act.put, List.setIfInBounds_toArray, List.set_cons_zero, List.set_cons_succ])
                  refine ts_run rfl (fun K hK => ?_)
                  go_simp
                  refine hK.out _ _ trivial ?_
                  clear hK K
                  refine ts_nil ?_
                  generalize W9.setCell ⟨bx, 9, none⟩ (.slice A9 (Pn + 1) c9) = W10 at *
                  have FI := Lib.hid (show DGLRel A n c zs w r br bx (fun l => ⟨xk, xr, xi, xq, xd, xl, xa, xt, xn, l, xo⟩) (fun k s => (partsS k s).1) (fun k s => (partsS k s).2) k0 s1 (.int .i64 (k' : Int)) W10 from ⟨_, k', _, _, _, rfl, R9.out, by
                    show ((partsS k0 s1).1, (partsS k0 s1).2) = (_ ++ (partsS k' s9).1, (partsS k' s9).2)
                    rw [he.out, hst2.out]
                    simp, by simp; omega⟩)
                  clear R9 y9 yf
                  have hkm : Value.int .i64 (((k' : Int) + 1) - 1) = .int .i64 (k' : Int) := by congr 1; omega
                  have hkm := Lib.hid hkm
                  go_wp2_with fail
                  go_roundw
                  case rel =>
                    first
                    | exact FI.out
                    | ((repeat apply Exists.intro); exact ⟨FI.out, rfl⟩)
                  case measure => simp [intOf] <;> omega
                · refine now_run rfl (fun K hK => ?_)
                  go_simp
                  refine hK.out _ _ trivial ?_
                  clear hK K
                  refine ts_run rfl (fun K hK => ?_)
                  have x9 : _ = some (Value.slice PA Pn Pc) := (D5.out.fresh ((Turned.refl (fun _ => False) W5).alloc (.cells #[.string ⟨iv.toArray⟩, .int .i64 qv] 55))).aa.cell 9
                  go_simp
                  refine hK.out _ _ trivial ?_
                  clear hK K x9
                  refine ts_run rfl (fun K hK => ?_)
                  refine wp_appE partT (.tmp 91) (.tmp 96) rfl (show OwnE _ 55 2 PA Pn Pc (partC l) from D5.out.own.parts.fresh ((Turned.refl (fun _ => False) W5).alloc (.cells #[.string ⟨iv.toArray⟩, .int .i64 qv] 55))) ⟨W5.heap.size, 0, none⟩ 1 1 [.string ⟨iv.toArray⟩, .int .i64 qv] rfl (news_new2 W5 55 _ _) (by simp [Value.oneCell']) (by omega) (by unfold maxLen; omega) (by omega) rfl rfl ?_
                  intro A9 c9 W9 ho9 hor9
                  refine hK.out _ _ trivial ?_
                  clear hK K
                  try simp only [Act.put, List.setIfInBounds_toArray, List.set_cons_zero, List.set_cons_succ]
                  have D6 := Lib.hid (D5.out.fresh ((Turned.refl (fun _ => False) W5).alloc (.cells #[.string ⟨iv.toArray⟩, .int .i64 qv] 55)))
                  have hAA := D6.out.aa.turned hor9.turned (fun e => D6.out.own.parts.blk D6.out.aa (by decide) e rfl)
                  have y9 : _ = some (Value.slice PA Pn Pc) := hAA.cell 9
                  have yf := hAA.frozen 9
                  have R9 := Lib.hid (D6.out.grow (x' := ⟨xk, xr, xi, xq, xd, xl, xa, xt, xn, l ++ [(iv, qv)], xo⟩) (S' := ⟨⟨A9, Pn + 1, c9⟩, ⟨QA, On, Oc⟩⟩) hor9.turned (fun i e => .inl e) 9 (.slice A9 (Pn + 1) c9) rfl ⟨by rw [partC_append]; exact ho9, D6.out.own.others.turned hor9.turned (fun g e e2 => by
                    obtain ⟨b1, r1⟩ := (e ▸ D6.out.own.others : OwnE _ 9 1 (some ⟨g, 0, none⟩) On Oc _).row.row
                    exact D6.out.own.parts.blk r1.1 (by decide) e2 rfl), fun g e => (hor9.at_ (Nat.le_trans D5.out.t.size (by simp))).elim (fun h => D5.out.own.pB g (by rw [← h.1]; exact e)) (fun ⟨g2, h1, h2⟩ => by rw [h1] at e; injection e with e; injection e with e; omega), D5.out.own.oB⟩ ⟨D6.out.ok.kind, D6.out.ok.request, D6.out.ok.item, D6.out.ok.qty, D6.out.ok.day, D6.out.ok.days, D6.out.ok.rank, D6.out.ok.lot, D6.out.ok.line, (fun p hp => by
                    rcases List.mem_append.1 hp with hp | hp
                    · exact D6.out.ok.parts p hp
                    · simp only [List.mem_singleton] at hp
                      subst hp
                      exact ⟨hiv, hqv⟩), D6.out.ok.others⟩)
                  clear hAA ho9 hor9 D5 D6
                  (refine ts_take (v := ?_) trivial rfl (fun w' hw => ?_) ?_; rotate_left; (focus (go_simp; (try with_reducible rfl); done)); try simp only [Act.put, List.setIfInBounds_toArray, List.set_cons_zero, List.set_cons_succ])
                  refine ts_run rfl (fun K hK => ?_)
                  go_simp
                  refine hK.out _ _ trivial ?_
                  clear hK K
                  refine ts_nil ?_
                  generalize W9.setCell ⟨bx, 9, none⟩ (.slice A9 (Pn + 1) c9) = W10 at *
                  have FI := Lib.hid (show DGLRel A n c zs w r br bx (fun l => ⟨xk, xr, xi, xq, xd, xl, xa, xt, xn, l, xo⟩) (fun k s => (partsS k s).1) (fun k s => (partsS k s).2) k0 s1 (.int .i64 (k' : Int)) W10 from ⟨_, k', _, _, _, rfl, R9.out, by
                    show ((partsS k0 s1).1, (partsS k0 s1).2) = (_ ++ (partsS k' s9).1, (partsS k' s9).2)
                    rw [he.out, hst2.out]
                    simp, by simp; omega⟩)
                  clear R9 y9 yf
                  have hkm : Value.int .i64 (((k' : Int) + 1) - 1) = .int .i64 (k' : Int) := by congr 1; omega
                  have hkm := Lib.hid hkm
                  go_wp2_with fail
                  go_roundw
                  case rel =>
                    first
                    | exact FI.out
                    | ((repeat apply Exists.intro); exact ⟨FI.out, rfl⟩)
                  case measure => simp [intOf] <;> omega
          · obtain rfl : k = 0 := by omega
            rw [partsS_stop 0 s6 (.inl rfl)] at he
            simp only [List.append_nil] at he
            have FI := Lib.hid (DGRel.step (k := 112) (x' := ⟨xk, xr, xi, xq, xd, xl, xa, xt, xn, l, xo⟩) (s' := s6) hpl htk.out hx.out (by
              have q1 := congrArg Prod.fst he.out
              have q2 := congrArg Prod.snd he.out
              simp only at q1 q2
              rw [hd.out, q1, q2]) R6.out)
            clear he hd
            go_wp2_with fail
            go_roundw
            case rel =>
              first
              | exact FI.out
              | ((repeat apply Exists.intro); exact ⟨FI.out, rfl⟩)
            case measure => simp [intOf] <;> omega
      · have hnil := Lib.hid (show xo = [] from by
          have h1 := (fold_lists (f.take pos) (startA (some zs))).2 (not_before (kinds_nodup hfk) htk.out)
          rw [hx.out] at h1
          exact h1)
        have hbS := R1.out.bytes hb
        obtain ⟨k0, hk0, hk255⟩ : ∃ k0 : Nat, (numS 1 s).1 = (k0 : Int) ∧ k0 ≤ 255 := ⟨(numS 1 s).1.toNat, by have := numS1_byte s hbS; unfold isByte at this; omega, by have := numS1_byte s hbS; unfold isByte at this; omega⟩
        have hd := Lib.hid (show decF (⟨xk, xr, xi, xq, xd, xl, xa, xt, xn, xp, xo⟩, s) 111 = (⟨xk, xr, xi, xq, xd, xl, xa, xt, xn, xp, (othersS k0 (numS 1 s).2).1⟩, (othersS k0 (numS 1 s).2).2) from by
          have e : decF (⟨xk, xr, xi, xq, xd, xl, xa, xt, xn, xp, xo⟩, s) 111 = (⟨xk, xr, xi, xq, xd, xl, xa, xt, xn, xp, (othersS (numS 1 s).1.toNat (numS 1 s).2).1⟩, (othersS (numS 1 s).1.toNat (numS 1 s).2).2) := rfl
          rw [e, hk0, Int.toNat_natCast])
        have hb1 := numS_b (k := 1) hbS
        go_wp2_with fail
        refine (dnum_any A n c zs w.heap.size r s pz 1 wr R1.out.get hb (by omega) (by omega)).mono ?_
        rw [hk0]
        rintro e W2 ⟨rfl, ⟨pz2, g2⟩, t2⟩
        have R2 := Lib.hid (R1.out.tk g2 t2)
        clear g2 t2 R1 hk0
        generalize (numS 1 s).2 = s1 at *
        have hst : DGLRel A n c zs w r br bx (fun l => ⟨xk, xr, xi, xq, xd, xl, xa, xt, xn, xp, l⟩) (fun k s => (othersS k s).1) (fun k s => (othersS k s).2) k0 s1 (.int .i64 (k0 : Int)) W2 := ⟨[], k0, ⟨⟨PA, Pn, Pc⟩, ⟨QA, On, Oc⟩⟩, s1, pz2, rfl, by have h5 := R2.out; rw [hnil.out] at h5; exact h5, by simp, by simp; omega⟩
        have hst := Lib.hid hst
        clear R2
        go_wp2_with fail
        obtain ⟨wo, hwo⟩ : ∃ wo : World, wo = W2 := ⟨_, rfl⟩
        clear hwo wo
        go_loopw [12] (fun i wr => DGLRel A n c zs w r br bx (fun l => ⟨xk, xr, xi, xq, xd, xl, xa, xt, xn, xp, l⟩) (fun k s => (othersS k s).1) (fun k s => (othersS k s).2) k0 s1 i wr) (fun i _ => (intOf i).toNat)
        case atStart => exact hst.out
        case round =>
          obtain ⟨l, k, S6, s6, pz6, rfl, R6, he, hlk⟩ := hrel
          have R6 : DGt A n c zs w r br bx ⟨xk, xr, xi, xq, xd, xl, xa, xt, xn, xp, l⟩ S6 s6 pz6 wr := R6
          have R6 := Lib.hid R6
          have he : ((othersS k0 s1).1, (othersS k0 s1).2) = (l ++ (othersS k s6).1, (othersS k s6).2) := he
          have he := Lib.hid he
          obtain ⟨⟨PA, Pn, Pc⟩, ⟨QA, On, Oc⟩⟩ := S6
          clear hst
          have kk := R6.out.get.blk.cell 2
          simp only [List.getElem?_toArray, List.getElem?_cons_zero, List.getElem?_cons_succ] at kk
          by_cases hk : 0 < k
          · have hki : (0 : Int) < (k : Int) := by omega
            cases s6 with
            | none =>
              simp only [Option.isNone_none] at kk
              rw [othersS_stop k none (.inr rfl)] at he
              simp only [List.append_nil] at he
              have FI := Lib.hid (DGRel.step (k := 111) (x' := ⟨xk, xr, xi, xq, xd, xl, xa, xt, xn, xp, l⟩) (s' := none) hpl htk.out hx.out (by
                have q1 := congrArg Prod.fst he.out
                have q2 := congrArg Prod.snd he.out
                simp only at q1 q2
                rw [hd.out, q1, q2]) R6.out)
              clear he hd
              go_wp2_with fail
              go_roundw
              case rel =>
                first
                | exact FI.out
                | ((repeat apply Exists.intro); exact ⟨FI.out, rfl⟩)
              case measure => simp [intOf] <;> omega
            | some r6 =>
              simp only [Option.isNone_some] at kk
              obtain ⟨k', rfl⟩ : ∃ k', k = k' + 1 := ⟨k - 1, by omega⟩
              have hbs := R6.out.bytes hb
              have hlN := Lib.hid (show l.length = On from by
                have h5 := R6.out.own.others.len
                rw [textC_length] at h5
                simp only at h5
                omega)
              have hNN : On ≤ 255 := by have h5 := hlN.out; omega
              have hst2 := Lib.hid (show othersS (k' + 1) (some r6) = ((codeS (some r6)).1 :: (othersS k' (codeS (some r6)).2).1, (othersS k' (codeS (some r6)).2).2) from rfl)
              have hiv := codeS_ok (some r6) hbs
              have R3 := R6
              obtain ⟨W3, hW3⟩ : ∃ W3, W3 = wr := ⟨_, rfl⟩
              go_wp2_with fail
              refine wp_region_ts (fun _ => True) (tsT [0, 2] (.two 1 3 (.run 3 (.run 4 (.run 5 (.take 6 (.run 7 .nil))))) (.two 1 4 (.run 4 (.run 5 (.take 6 (.run 7 .nil)))) (.run 1 (.run 5 (.take 6 (.run 7 .nil))))))) mixed (by kernel_rfl) (fun _ _ _ _ _ h => h) ?_
              simp only [tsT, tsF, List.foldr_cons, List.foldr_nil, Ts.map, List.getElem?_cons_zero, List.getElem?_cons_succ]
              have DD := Lib.hid (R3.out.fresh ((Turned.refl (fun _ => False) wr).drew))
              iterate 2 (refine ts_take (v := ?_) trivial rfl (fun w' hw => ?_) ?_; rotate_left; (focus (go_simp; (try with_reducible rfl); done)); try simp only [Act.put, List.setIfInBounds_toArray, List.set_cons_zero, List.set_cons_succ])
              obtain ⟨wd, hwd⟩ : ∃ wd, wd = wr.drew := ⟨_, rfl⟩
              rw [← hwd] at DD ⊢
              clear hwd R3 R6 W3 hW3 kk
              refine ts_two ?_ ?_
              · refine now_run rfl (fun K hK => ?_)
                have x9 : _ = some (Value.slice QA On Oc) := DD.out.aa.cell 10
                go_simp
                refine hK.out _ _ trivial ?_
                clear hK K x9
                refine ts_run rfl (fun K hK => ?_)
                go_simp
                refine (dcode_any A n c zs w.heap.size r (some r6) pz6 wd DD.out.get hb).mono ?_
                rintro e W5 ⟨rfl, ⟨pz5, g5⟩, t5⟩
                have D5 := Lib.hid (DD.out.tk g5 t5)
                clear g5 t5 DD
                unfold strV
                refine hK.out _ _ trivial ?_
                clear hK K
                generalize (codeS (some r6)).1 = iv at *
                generalize (codeS (some r6)).2 = s9 at *
                refine ts_run rfl (fun K hK => ?_)
                go_simp
                refine hK.out _ _ trivial ?_
                clear hK K
                refine ts_run rfl (fun K hK => ?_)
                refine wp_appE textT (.tmp 115) (.tmp 118) rfl (show OwnE _ 9 1 QA On Oc (textC l) from D5.out.own.others.fresh ((Turned.refl (fun _ => False) W5).alloc (.cells #[.string ⟨iv.toArray⟩] 9))) ⟨W5.heap.size, 0, none⟩ 1 1 [.string ⟨iv.toArray⟩] rfl (news_new1 W5 9 _) (by simp [Value.oneCell']) (by omega) (by unfold maxLen; omega) (by omega) rfl rfl ?_
                intro A9 c9 W9 ho9 hor9
                refine hK.out _ _ trivial ?_
                clear hK K
                try simp only [Act.put, List.setIfInBounds_toArray, List.set_cons_zero, List.set_cons_succ]
                have D6 := Lib.hid (D5.out.fresh ((Turned.refl (fun _ => False) W5).alloc (.cells #[.string ⟨iv.toArray⟩] 9)))
                have hAA := D6.out.aa.turned hor9.turned (fun e => D6.out.own.others.blk D6.out.aa (by decide) e rfl)
                have y9 : _ = some (Value.slice QA On Oc) := hAA.cell 10
                have yf := hAA.frozen 10
                have R9 := Lib.hid (D6.out.grow (x' := ⟨xk, xr, xi, xq, xd, xl, xa, xt, xn, xp, l ++ [iv]⟩) (S' := ⟨⟨PA, Pn, Pc⟩, ⟨A9, On + 1, c9⟩⟩) hor9.turned (fun i e => .inr e) 10 (.slice A9 (On + 1) c9) rfl ⟨D6.out.own.parts.turned hor9.turned (fun g e e2 => by
                  obtain ⟨b1, r1⟩ := (e ▸ D6.out.own.parts : OwnE _ 55 2 (some ⟨g, 0, none⟩) Pn Pc _).row.row
                  exact D6.out.own.others.blk r1.1 (by decide) e2 rfl), by rw [textC_append]; exact ho9, D5.out.own.pB, fun g e => (hor9.at_ (Nat.le_trans D5.out.t.size (by simp))).elim (fun h => D5.out.own.oB g (by rw [← h.1]; exact e)) (fun ⟨g2, h1, h2⟩ => by rw [h1] at e; injection e with e; injection e with e; omega)⟩ ⟨D6.out.ok.kind, D6.out.ok.request, D6.out.ok.item, D6.out.ok.qty, D6.out.ok.day, D6.out.ok.days, D6.out.ok.rank, D6.out.ok.lot, D6.out.ok.line, D6.out.ok.parts, (fun p hp => by
                  rcases List.mem_append.1 hp with hp | hp
                  · exact D6.out.ok.others p hp
                  · simp only [List.mem_singleton] at hp
                    subst hp
                    exact hiv)⟩)
                clear hAA ho9 hor9 D5 D6
                (refine ts_take (v := ?_) trivial rfl (fun w' hw => ?_) ?_; rotate_left; (focus (go_simp; (try with_reducible rfl); done)); try simp only [Act.put, List.setIfInBounds_toArray, List.set_cons_zero, List.set_cons_succ])
                refine ts_run rfl (fun K hK => ?_)
                go_simp
                refine hK.out _ _ trivial ?_
                clear hK K
                refine ts_nil ?_
                generalize W9.setCell ⟨bx, 10, none⟩ (.slice A9 (On + 1) c9) = W10 at *
                have FI := Lib.hid (show DGLRel A n c zs w r br bx (fun l => ⟨xk, xr, xi, xq, xd, xl, xa, xt, xn, xp, l⟩) (fun k s => (othersS k s).1) (fun k s => (othersS k s).2) k0 s1 (.int .i64 (k' : Int)) W10 from ⟨_, k', _, _, _, rfl, R9.out, by
                  show ((othersS k0 s1).1, (othersS k0 s1).2) = (_ ++ (othersS k' s9).1, (othersS k' s9).2)
                  rw [he.out, hst2.out]
                  simp, by simp; omega⟩)
                clear R9 y9 yf
                have hkm : Value.int .i64 (((k' : Int) + 1) - 1) = .int .i64 (k' : Int) := by congr 1; omega
                have hkm := Lib.hid hkm
                go_wp2_with fail
                go_roundw
                case rel =>
                  first
                  | exact FI.out
                  | ((repeat apply Exists.intro); exact ⟨FI.out, rfl⟩)
                case measure => simp [intOf] <;> omega
              · refine now_run rfl (fun K hK => ?_)
                go_simp
                refine (dcode_any A n c zs w.heap.size r (some r6) pz6 wd DD.out.get hb).mono ?_
                rintro e W5 ⟨rfl, ⟨pz5, g5⟩, t5⟩
                have D5 := Lib.hid (DD.out.tk g5 t5)
                clear g5 t5 DD
                unfold strV
                refine hK.out _ _ trivial ?_
                clear hK K
                generalize (codeS (some r6)).1 = iv at *
                generalize (codeS (some r6)).2 = s9 at *
                refine ts_two ?_ ?_
                · refine now_run rfl (fun K hK => ?_)
                  have x9 : _ = some (Value.slice QA On Oc) := D5.out.aa.cell 10
                  go_simp
                  refine hK.out _ _ trivial ?_
                  clear hK K x9
                  refine ts_run rfl (fun K hK => ?_)
                  go_simp
                  refine hK.out _ _ trivial ?_
                  clear hK K
                  refine ts_run rfl (fun K hK => ?_)
                  refine wp_appE textT (.tmp 115) (.tmp 118) rfl (show OwnE _ 9 1 QA On Oc (textC l) from D5.out.own.others.fresh ((Turned.refl (fun _ => False) W5).alloc (.cells #[.string ⟨iv.toArray⟩] 9))) ⟨W5.heap.size, 0, none⟩ 1 1 [.string ⟨iv.toArray⟩] rfl (news_new1 W5 9 _) (by simp [Value.oneCell']) (by omega) (by unfold maxLen; omega) (by omega) rfl rfl ?_
                  intro A9 c9 W9 ho9 hor9
                  refine hK.out _ _ trivial ?_
                  clear hK K
                  try simp only [Act.put, List.setIfInBounds_toArray, List.set_cons_zero, List.set_cons_succ]
                  have D6 := Lib.hid (D5.out.fresh ((Turned.refl (fun _ => False) W5).alloc (.cells #[.string ⟨iv.toArray⟩] 9)))
                  have hAA := D6.out.aa.turned hor9.turned (fun e => D6.out.own.others.blk D6.out.aa (by decide) e rfl)
                  have y9 : _ = some (Value.slice QA On Oc) := hAA.cell 10
                  have yf := hAA.frozen 10
                  have R9 := Lib.hid (D6.out.grow (x' := ⟨xk, xr, xi, xq, xd, xl, xa, xt, xn, xp, l ++ [iv]⟩) (S' := ⟨⟨PA, Pn, Pc⟩, ⟨A9, On + 1, c9⟩⟩) hor9.turned (fun i e => .inr e) 10 (.slice A9 (On + 1) c9) rfl ⟨D6.out.own.parts.turned hor9.turned (fun g e e2 => by
                    obtain ⟨b1, r1⟩ := (e ▸ D6.out.own.parts : OwnE _ 55 2 (some ⟨g, 0, none⟩) Pn Pc _).row.row
                    exact D6.out.own.others.blk r1.1 (by decide) e2 rfl), by rw [textC_append]; exact ho9, D5.out.own.pB, fun g e => (hor9.at_ (Nat.le_trans D5.out.t.size (by simp))).elim (fun h => D5.out.own.oB g (by rw [← h.1]; exact e)) (fun ⟨g2, h1, h2⟩ => by rw [h1] at e; injection e with e; injection e with e; omega)⟩ ⟨D6.out.ok.kind, D6.out.ok.request, D6.out.ok.item, D6.out.ok.qty, D6.out.ok.day, D6.out.ok.days, D6.out.ok.rank, D6.out.ok.lot, D6.out.ok.line, D6.out.ok.parts, (fun p hp => by
                    rcases List.mem_append.1 hp with hp | hp
                    · exact D6.out.ok.others p hp
                    · simp only [List.mem_singleton] at hp
                      subst hp
                      exact hiv)⟩)
                  clear hAA ho9 hor9 D5 D6
                  (refine ts_take (v := ?_) trivial rfl (fun w' hw => ?_) ?_; rotate_left; (focus (go_simp; (try with_reducible rfl); done)); try simp only [Act.put, List.setIfInBounds_toArray, List.set_cons_zero, List.set_cons_succ])
                  refine ts_run rfl (fun K hK => ?_)
                  go_simp
                  refine hK.out _ _ trivial ?_
                  clear hK K
                  refine ts_nil ?_
                  generalize W9.setCell ⟨bx, 10, none⟩ (.slice A9 (On + 1) c9) = W10 at *
                  have FI := Lib.hid (show DGLRel A n c zs w r br bx (fun l => ⟨xk, xr, xi, xq, xd, xl, xa, xt, xn, xp, l⟩) (fun k s => (othersS k s).1) (fun k s => (othersS k s).2) k0 s1 (.int .i64 (k' : Int)) W10 from ⟨_, k', _, _, _, rfl, R9.out, by
                    show ((othersS k0 s1).1, (othersS k0 s1).2) = (_ ++ (othersS k' s9).1, (othersS k' s9).2)
                    rw [he.out, hst2.out]
                    simp, by simp; omega⟩)
                  clear R9 y9 yf
                  have hkm : Value.int .i64 (((k' : Int) + 1) - 1) = .int .i64 (k' : Int) := by congr 1; omega
                  have hkm := Lib.hid hkm
                  go_wp2_with fail
                  go_roundw
                  case rel =>
                    first
                    | exact FI.out
                    | ((repeat apply Exists.intro); exact ⟨FI.out, rfl⟩)
                  case measure => simp [intOf] <;> omega
                · refine now_run rfl (fun K hK => ?_)
                  go_simp
                  refine hK.out _ _ trivial ?_
                  clear hK K
                  refine ts_run rfl (fun K hK => ?_)
                  have x9 : _ = some (Value.slice QA On Oc) := (D5.out.fresh ((Turned.refl (fun _ => False) W5).alloc (.cells #[.string ⟨iv.toArray⟩] 9))).aa.cell 10
                  go_simp
                  refine hK.out _ _ trivial ?_
                  clear hK K x9
                  refine ts_run rfl (fun K hK => ?_)
                  refine wp_appE textT (.tmp 115) (.tmp 118) rfl (show OwnE _ 9 1 QA On Oc (textC l) from D5.out.own.others.fresh ((Turned.refl (fun _ => False) W5).alloc (.cells #[.string ⟨iv.toArray⟩] 9))) ⟨W5.heap.size, 0, none⟩ 1 1 [.string ⟨iv.toArray⟩] rfl (news_new1 W5 9 _) (by simp [Value.oneCell']) (by omega) (by unfold maxLen; omega) (by omega) rfl rfl ?_
                  intro A9 c9 W9 ho9 hor9
                  refine hK.out _ _ trivial ?_
                  clear hK K
                  try simp only [Act.put, List.setIfInBounds_toArray, List.set_cons_zero, List.set_cons_succ]
                  have D6 := Lib.hid (D5.out.fresh ((Turned.refl (fun _ => False) W5).alloc (.cells #[.string ⟨iv.toArray⟩] 9)))
                  have hAA := D6.out.aa.turned hor9.turned (fun e => D6.out.own.others.blk D6.out.aa (by decide) e rfl)
                  have y9 : _ = some (Value.slice QA On Oc) := hAA.cell 10
                  have yf := hAA.frozen 10
                  have R9 := Lib.hid (D6.out.grow (x' := ⟨xk, xr, xi, xq, xd, xl, xa, xt, xn, xp, l ++ [iv]⟩) (S' := ⟨⟨PA, Pn, Pc⟩, ⟨A9, On + 1, c9⟩⟩) hor9.turned (fun i e => .inr e) 10 (.slice A9 (On + 1) c9) rfl ⟨D6.out.own.parts.turned hor9.turned (fun g e e2 => by
                    obtain ⟨b1, r1⟩ := (e ▸ D6.out.own.parts : OwnE _ 55 2 (some ⟨g, 0, none⟩) Pn Pc _).row.row
                    exact D6.out.own.others.blk r1.1 (by decide) e2 rfl), by rw [textC_append]; exact ho9, D5.out.own.pB, fun g e => (hor9.at_ (Nat.le_trans D5.out.t.size (by simp))).elim (fun h => D5.out.own.oB g (by rw [← h.1]; exact e)) (fun ⟨g2, h1, h2⟩ => by rw [h1] at e; injection e with e; injection e with e; omega)⟩ ⟨D6.out.ok.kind, D6.out.ok.request, D6.out.ok.item, D6.out.ok.qty, D6.out.ok.day, D6.out.ok.days, D6.out.ok.rank, D6.out.ok.lot, D6.out.ok.line, D6.out.ok.parts, (fun p hp => by
                    rcases List.mem_append.1 hp with hp | hp
                    · exact D6.out.ok.others p hp
                    · simp only [List.mem_singleton] at hp
                      subst hp
                      exact hiv)⟩)
                  clear hAA ho9 hor9 D5 D6
                  (refine ts_take (v := ?_) trivial rfl (fun w' hw => ?_) ?_; rotate_left; (focus (go_simp; (try with_reducible rfl); done)); try simp only [Act.put, List.setIfInBounds_toArray, List.set_cons_zero, List.set_cons_succ])
                  refine ts_run rfl (fun K hK => ?_)
                  go_simp
                  refine hK.out _ _ trivial ?_
                  clear hK K
                  refine ts_nil ?_
                  generalize W9.setCell ⟨bx, 10, none⟩ (.slice A9 (On + 1) c9) = W10 at *
                  have FI := Lib.hid (show DGLRel A n c zs w r br bx (fun l => ⟨xk, xr, xi, xq, xd, xl, xa, xt, xn, xp, l⟩) (fun k s => (othersS k s).1) (fun k s => (othersS k s).2) k0 s1 (.int .i64 (k' : Int)) W10 from ⟨_, k', _, _, _, rfl, R9.out, by
                    show ((othersS k0 s1).1, (othersS k0 s1).2) = (_ ++ (othersS k' s9).1, (othersS k' s9).2)
                    rw [he.out, hst2.out]
                    simp, by simp; omega⟩)
                  clear R9 y9 yf
                  have hkm : Value.int .i64 (((k' : Int) + 1) - 1) = .int .i64 (k' : Int) := by congr 1; omega
                  have hkm := Lib.hid hkm
                  go_wp2_with fail
                  go_roundw
                  case rel =>
                    first
                    | exact FI.out
                    | ((repeat apply Exists.intro); exact ⟨FI.out, rfl⟩)
                  case measure => simp [intOf] <;> omega
          · obtain rfl : k = 0 := by omega
            rw [othersS_stop 0 s6 (.inl rfl)] at he
            simp only [List.append_nil] at he
            have FI := Lib.hid (DGRel.step (k := 111) (x' := ⟨xk, xr, xi, xq, xd, xl, xa, xt, xn, xp, l⟩) (s' := s6) hpl htk.out hx.out (by
              have q1 := congrArg Prod.fst he.out
              have q2 := congrArg Prod.snd he.out
              simp only at q1 q2
              rw [hd.out, q1, q2]) R6.out)
            clear he hd
            go_wp2_with fail
            go_roundw
            case rel =>
              first
              | exact FI.out
              | ((repeat apply Exists.intro); exact ⟨FI.out, rfl⟩)
            case measure => simp [intOf] <;> omega
    · have hge : (f.length : Int) ≤ (pos : Int) := by omega
      have htf : f.take pos = f := List.take_of_length_le (by omega)
      rw [htf, ← hrA.out] at hx
      have kk := R1.out.get.blk.cell 2
      simp only [List.getElem?_toArray, List.getElem?_cons_zero, List.getElem?_cons_succ] at kk
      clear htf hfw
      cases s with
      | none =>
        have hno := Lib.hid (show getA zs = none from by unfold getA; rw [hx.out])
        have HQ := R1
        simp only [Option.isNone_none] at kk
        obtain ⟨y0, y1, y2, y3, y4, y5, y6, y7, y8, y9, y10⟩ := AskAt.cells (show AskAt wr br AskV.zero AskS.nil from HQ.out.res)
        simp only [AskV.zero, AskS.nil, Sl.nil] at y0 y1 y2 y3 y4 y5 y6 y7 y8 y9 y10
        have yf := HQ.out.res.frozen
        go_wp2_with fail
        obtain ⟨wz, hwz, XZ, tZ⟩ := fin11 (.int .u8 0) (.int .i64 0) (.string ⟨#[]⟩) (.int .i64 0) (.int .i64 0) (.int .i64 0) (.int .i64 0) (.int .i64 0) (.int .i64 0) (.slice none 0 0) (.slice none 0 0) HQ.out.res
        rw [hwz]
        clear hwz
        obtain ⟨e0, e1, e2, e3, e4, e5, e6, e7, e8, e9, e10⟩ := XZ.cells11
        refine bodyPost_ret (v := .tuple #[.agg #[.int .u8 0, .int .i64 0, .string ⟨#[]⟩, .int .i64 0, .int .i64 0, .int .i64 0, .int .i64 0, .int .i64 0, .int .i64 0, .slice none 0 0, .slice none 0 0], .int .i64 0, .int .i64 4]) (by simp [results, Tryz.results10, go_sem, e0, e1, e2, e3, e4, e5, e6, e7, e8, e9, e10]) rfl ?_
        have TZ := HQ.out.t.trans (W := fun _ => False) tZ (fun _ e => e) (fun i e => .inr (by have := hbb.out; omega))
        exact .inr ⟨hno.out, rfl, TZ⟩
      | some q =>
        simp only [Option.isNone_some] at kk
        have hR := rright13_any ⟨xk, xr, xi, xq, xd, xl, xa, xt, xn, xp, xo⟩ ⟨⟨PA, Pn, Pc⟩, ⟨QA, On, Oc⟩⟩ wr R1.out.own.is R1.out.ok
        unfold askC strV at hR
        simp only at hR
        obtain ⟨c0, c1, c2, c3, c4, c5, c6, c7, c8, c9, c10⟩ := AskAt.cells R1.out.aa
        simp only at c0 c1 c2 c3 c4 c5 c6 c7 c8 c9 c10
        cases hr : rightA ⟨xk, xr, xi, xq, xd, xl, xa, xt, xn, xp, xo⟩ with
        | false =>
          rw [hr] at hR
          have hno := Lib.hid (show getA zs = none from by unfold getA; rw [hx.out]; simp only; rw [hr]; rfl)
          clear hr
          go_wp2_with fail
          refine hR.mono ?_
          rintro e WQ ⟨rfl, tq⟩
          have HQ := Lib.hid (R1.out.fresh tq)
          clear tq hR c0 c1 c2 c3 c4 c5 c6 c7 c8 c9 c10
          obtain ⟨y0, y1, y2, y3, y4, y5, y6, y7, y8, y9, y10⟩ := AskAt.cells (show AskAt WQ br AskV.zero AskS.nil from HQ.out.res)
          simp only [AskV.zero, AskS.nil, Sl.nil] at y0 y1 y2 y3 y4 y5 y6 y7 y8 y9 y10
          have yf := HQ.out.res.frozen
          go_wp2_with fail
          obtain ⟨wz, hwz, XZ, tZ⟩ := fin11 (.int .u8 0) (.int .i64 0) (.string ⟨#[]⟩) (.int .i64 0) (.int .i64 0) (.int .i64 0) (.int .i64 0) (.int .i64 0) (.int .i64 0) (.slice none 0 0) (.slice none 0 0) HQ.out.res
          rw [hwz]
          clear hwz
          obtain ⟨e0, e1, e2, e3, e4, e5, e6, e7, e8, e9, e10⟩ := XZ.cells11
          refine bodyPost_ret (v := .tuple #[.agg #[.int .u8 0, .int .i64 0, .string ⟨#[]⟩, .int .i64 0, .int .i64 0, .int .i64 0, .int .i64 0, .int .i64 0, .int .i64 0, .slice none 0 0, .slice none 0 0], .int .i64 0, .int .i64 4]) (by simp [results, Tryz.results10, go_sem, e0, e1, e2, e3, e4, e5, e6, e7, e8, e9, e10]) rfl ?_
          have TZ := HQ.out.t.trans (W := fun _ => False) tZ (fun _ e => e) (fun i e => .inr (by have := hbb.out; omega))
          exact .inr ⟨hno.out, rfl, TZ⟩
        | true =>
          rw [hr] at hR
          have hle := R1.out.get.le
          have hys := Lib.hid (show getA zs = some (⟨xk, xr, xi, xq, xd, xl, xa, xt, xn, xp, xo⟩, pz) from by
            unfold getA
            rw [hx.out]
            simp only
            rw [hr, R1.out.get.is_ q rfl, List.length_drop, R1.out.get.byt.len]
            simp only [if_true, Option.some.injEq, Prod.mk.injEq, true_and]
            omega)
          clear hr
          go_wp2_with fail
          refine hR.mono ?_
          rintro e WQ ⟨rfl, tq⟩
          have HQ := Lib.hid (R1.out.fresh tq)
          clear tq hR c0 c1 c2 c3 c4 c5 c6 c7 c8 c9 c10 R1
          go_wp2_with fail
          have DQ := Lib.hid (HQ.out.fresh ((Turned.refl (fun _ => False) WQ).drew))
          refine wp_region_segs (fun w' => AskAt w' bx ⟨xk, xr, xi, xq, xd, xl, xa, xt, xn, xp, xo⟩ ⟨⟨PA, Pn, Pc⟩, ⟨QA, On, Oc⟩⟩ ∧ w'.cell? ⟨r, 1, none⟩ = some (.int .i64 (pz : Int))) (segT [0, 1, 2, 3, 4] ++ segF [5] ++ segT [6, 7]) mixed (by kernel_rfl) (fun _ _ _ _ _ h => h) ?_
          simp only [segT, segF, pickSegs, List.map_cons, List.map_nil, List.cons_append, List.nil_append, List.filterMap_cons, List.filterMap_nil, List.getElem?_cons_zero, List.getElem?_cons_succ, Option.map_some]
          have hS := And.intro DQ.out.aa (show _ = some (Value.int .i64 (pz : Int)) from DQ.out.get.blk.cell 1)
          iterate 5 (refine wpSegs_take (v := ?_) hS rfl (fun w' hw => ?_) ?_; rotate_left; (obtain ⟨hA, hB⟩ := hw; obtain ⟨c0, c1, c2, c3, c4, c5, c6, c7, c8, c9, c10⟩ := AskAt.cells hA; simp only at c0 c1 c2 c3 c4 c5 c6 c7 c8 c9 c10; go_simp; try with_reducible rfl); try simp only [Act.put, List.setIfInBounds_toArray, List.set_cons_zero, List.set_cons_succ])
          generalize WQ.drew = WD at *
          clear hS
          obtain ⟨y0, y1, y2, y3, y4, y5, y6, y7, y8, y9, y10⟩ := AskAt.cells (show AskAt WD br AskV.zero AskS.nil from DQ.out.res)
          simp only [AskV.zero, AskS.nil, Sl.nil] at y0 y1 y2 y3 y4 y5 y6 y7 y8 y9 y10
          have yf := DQ.out.res.frozen
          refine wpSegs_run rfl (fun K hK => ?_)
          go_simp
          obtain ⟨wz, hwz, XZ, tZ⟩ := fin11 (.int .u8 xk) (.int .i64 xr) (.string ⟨xi.toArray⟩) (.int .i64 xq) (.int .i64 xd) (.int .i64 xl) (.int .i64 xa) (.int .i64 xt) (.int .i64 xn) (.slice PA Pn Pc) (.slice QA On Oc) DQ.out.res
          rw [hwz]
          clear hwz
          have nr := DQ.out.rx
          have hS := And.intro (AskAt.turned DQ.out.aa tZ (fun e => nr e.symm)) (show wz.cell? ⟨r, 1, none⟩ = some (Value.int .i64 (pz : Int)) from (DQ.out.get.blk.turned tZ (fun e => Blk.ne_ DQ.out.get.blk DQ.out.res (by decide) e)).cell 1)
          refine hK.out _ _ hS ?_
          clear hK K
          iterate 2 (refine wpSegs_take (v := ?_) hS rfl (fun w' hw => ?_) ?_; rotate_left; (obtain ⟨hA, hB⟩ := hw; obtain ⟨c0, c1, c2, c3, c4, c5, c6, c7, c8, c9, c10⟩ := AskAt.cells hA; simp only at c0 c1 c2 c3 c4 c5 c6 c7 c8 c9 c10; go_simp; try with_reducible rfl); try simp only [Act.put, List.setIfInBounds_toArray, List.set_cons_zero, List.set_cons_succ])
          refine wpSegs_nil ?_
          clear hS
          go_wp2_with fail
          obtain ⟨e0, e1, e2, e3, e4, e5, e6, e7, e8, e9, e10⟩ := XZ.cells11
          refine bodyPost_ret (v := .tuple #[.agg #[.int .u8 xk, .int .i64 xr, .string ⟨xi.toArray⟩, .int .i64 xq, .int .i64 xd, .int .i64 xl, .int .i64 xa, .int .i64 xt, .int .i64 xn, .slice PA Pn Pc, .slice QA On Oc], .int .i64 (pz : Int), .int .i64 0]) (by simp [results, Tryz.results10, go_sem, e0, e1, e2, e3, e4, e5, e6, e7, e8, e9, e10]) rfl ?_
          have TZ := DQ.out.t.trans (W := fun _ => False) tZ (fun _ e => e) (fun i e => .inr (by have := hbb.out; omega))
          exact .inl ⟨_, pz, ⟨⟨PA, Pn, Pc⟩, ⟨QA, On, Oc⟩⟩, hys.out, rfl, DQ.out.own.moved tZ (fun i e => e) DQ.out.res (by decide) (by decide), DQ.out.ok, TZ⟩
end Go.Proofs.YtijmfglgeaaoaaaGreatDoor

