/-
  The first and the last step of log.Force, for a log of one sheet. Conditions: as log.write's; the disk is not armed.
-/
import Derived.Test.YtfheikmjjijdpaaDoorLgG
namespace Go.Proofs.YtfheikmjjijdpaaDoor
open Go.RowKit Go.Maps
set_option linter.unusedVariables false
set_option linter.unusedSimpArgs false

theorem shtC_set56 (num turn bef used safe safe' : Int) (A : Option Addr) (n c : Nat) (lost lost' : Bool) : ((shtC num turn bef used A n c safe lost).setIfInBounds 5 (.int .i64 safe')).setIfInBounds 6 (.bool lost') = shtC num turn bef used A n c safe' lost' := by unfold shtC; simp only [List.setIfInBounds_toArray, List.set_cons_zero, List.set_cons_succ]
theorem LogW.set56 {w : World} {B : Nat} {X : LgS} (h : LogW w B X) (v : Int) (b : Bool) : LogW ((w.setCell ⟨X.g, 5, none⟩ (.int .i64 v)).setCell ⟨X.g, 6, none⟩ (.bool b)) B { X with safe := v, lost := b } := by
  obtain ⟨p1, p2, p3, p4, p5, p6⟩ := h.apart
  have ts := ((Turned.refl (fun i => i = X.g) w).setCell (p := ⟨X.g, 5, none⟩) (.inl rfl) (.int .i64 v)).setCell (p := ⟨X.g, 6, none⟩) (.inl rfl) (.bool b)
  have hset := (h.sht.blk.set_ 5 (.int .i64 v)).set_ 6 (.bool b)
  rw [shtC_set56] at hset
  exact ⟨h.blk.turned ts (fun e => p2 e), h.shs.turned ts (fun e => p4 e), h.psl, h.lsn.turned ts (fun q e e2 => (h.lsnApart e).2.2.1 e2), ⟨hset, h.sht.bod.turned ts (fun e => p6 e.symm)⟩, h.bL, h.bS, h.bg, h.bb, h.bl, h.cB, h.kB, h.nB, h.hB, h.lB⟩
set_option maxRecDepth 100000 in
set_option maxHeartbeats 2000000 in
theorem lforce1_any (B ms mo bl : Nat) (X : LgS) (A : DA) (w : World) (h : LogW w B X) (hbl : w.cell? ⟨bl, 0, none⟩ = some (.pointer (some ⟨X.L, 0, none⟩))) (hk : X.k = 0) (hD : IsDisk w X.d ms mo A) (hdn : A.down = false) (har : tickD A.armed = false) (hdB : ∀ i, dskW X.d ms mo i → i < B) (hBw : B ≤ w.heap.size) (hwant : X.safe ≠ (X.body.length : Int)) (hn1 : 0 < X.body.length) (hn2 : X.body.length < 496) (hb : ∀ z ∈ X.body, isByte z) (hf : 0 ≤ X.first) (hs : X.first + X.count ≤ A.n) :
    Calls Tryd.prog 45 #[.pointer (some ⟨bl, 0, none⟩)] w (LWr B ms mo X A w) := by
  have HW := Lib.hid (lwrite_any B ms mo X A w h hD hdn hdB hBw hwant hn1 hn2 hb hf hs)
  obtain ⟨L, d, Sb, g, gb, first, count, turn, oldest, k, cS, ps, Al, cl, ls, num, tn, bef, used, safe, body, c, lost⟩ := X
  simp only at *
  subst hk
  have H := Lib.hid h
  have x5 : w.cell? ⟨L, 5, none⟩ = some (.slice (some ⟨Sb, 0, none⟩) 1 cS) := H.out.blk.cell 5
  have xg : w.cell? ⟨Sb, 0, none⟩ = some (.pointer (some ⟨g, 0, none⟩)) := H.out.read.lst
  unfold LWr at HW
  rw [har] at HW
  simp only [codeOf, Bool.false_eq_true, if_false] at HW
  clear h hD hdn hdB hBw hwant hn1 hn2 hb hf hs
  go_enter Tryd.func45, Tryd.ntmps45
  go_wp2_with fail
  go_loopw [3, 4, 10] (fun _ _ i wr => (i = .int .i64 0 ∧ wr = w) ∨ (i = .int .i64 1 ∧ IsDisk wr d ms mo (A.write (first + num % count) (shtL num turn bef body)) ∧ LogW wr B ⟨L, d, Sb, g, gb, first, count, turn, oldest, 0, cS, ps, Al, cl, ls, num, turn, bef, used, safe, body, c, lost⟩ ∧ Turned (fun i => i = g ∨ dskW d ms mo i) w wr)) (fun _ _ i _ => 1 - (intOf i).toNat)
  case atStart => exact .inl ⟨rfl, rfl⟩
  case round =>
    rcases hrel with ⟨rfl, rfl⟩ | ⟨rfl, d1, l1, t1⟩
    · go_wp2_with fail
      refine HW.out.mono ?_
      rintro e w2 ⟨rfl, d2, l2, t2⟩
      have D2 := Lib.hid d2
      have L2 := Lib.hid l2
      have T2 := Lib.hid t2
      clear d2 l2 t2 x5 xg
      go_wp2_with fail
      go_roundw
      case rel =>
        first
        | exact .inr ⟨rfl, D2.out, L2.out, T2.out⟩
        | ((repeat apply Exists.intro); exact ⟨.inr ⟨rfl, D2.out, L2.out, T2.out⟩, rfl⟩)
      case measure => simp [intOf]
    · have D1 := Lib.hid d1
      have L1 := Lib.hid l1
      have T1 := Lib.hid t1
      clear d1 l1 t1
      go_wp2_with fail
      go_ret
      exact ⟨by rw [har]; rfl, D1.out, L1.out, T1.out⟩
set_option maxRecDepth 100000 in
set_option maxHeartbeats 2000000 in
theorem lforce2_any (B bl : Nat) (X : LgS) (w : World) (h : LogW w B X) (hbl : w.cell? ⟨bl, 0, none⟩ = some (.pointer (some ⟨X.L, 0, none⟩))) (hk : X.k = 0) :
    Calls Tryd.prog 48 #[.pointer (some ⟨bl, 0, none⟩)] w (fun e w' => e = .returned (.int .i64 0) ∧ LogW w' B { X with safe := X.body.length, lost := false } ∧ Turned (fun i => i = X.g) w w') := by
  obtain ⟨L, d, Sb, g, gb, first, count, turn, oldest, k, cS, ps, Al, cl, ls, num, tn, bef, used, safe, body, c, lost⟩ := X
  simp only at *
  subst hk
  have H := Lib.hid h
  have x5 : w.cell? ⟨L, 5, none⟩ = some (.slice (some ⟨Sb, 0, none⟩) 1 cS) := H.out.blk.cell 5
  have xg : w.cell? ⟨Sb, 0, none⟩ = some (.pointer (some ⟨g, 0, none⟩)) := H.out.read.lst
  have x4 : w.cell? ⟨g, 4, none⟩ = some (.slice (some ⟨gb, 0, none⟩) body.length c) := H.out.sht.blk.cell 4
  have y5 : w.cell? ⟨g, 5, none⟩ = some (.int .i64 safe) := H.out.sht.blk.cell 5
  have y6 : w.cell? ⟨g, 6, none⟩ = some (.bool lost) := H.out.sht.blk.cell 6
  have f5 := H.out.sht.blk.frozen 5
  have f6 := H.out.sht.blk.frozen 6
  have HF := Lib.hid (h.set56 body.length false)
  have hq6 := Lib.hid (show (w.setCell ⟨g, 5, none⟩ (.int .i64 (body.length : Int))).cell? ⟨g, 6, none⟩ = some (.bool lost) from (H.out.sht.blk.set_ 5 _).cell 6)
  have hq7 := Lib.hid ((H.out.sht.blk.set_ 5 (.int .i64 (body.length : Int))).frozen 6)
  simp only at f5 f6
  have z6 := hq6.out
  have z7 := hq7.out
  simp only at z7
  clear h
  go_enter Tryd.func48, Tryd.ntmps48
  go_wp2_with fail
  go_loopw [3, 9] (fun _ i wr => (i = .int .i64 0 ∧ wr = w) ∨ (i = .int .i64 1 ∧ LogW wr B ⟨L, d, Sb, g, gb, first, count, turn, oldest, 0, cS, ps, Al, cl, ls, num, tn, bef, used, body.length, body, c, false⟩ ∧ Turned (fun i => i = g) w wr)) (fun _ i _ => 1 - (intOf i).toNat)
  case atStart => exact .inl ⟨rfl, rfl⟩
  case round =>
    rcases hrel with ⟨rfl, rfl⟩ | ⟨rfl, l1, t1⟩
    · go_wp2_with fail
      have T2 := Lib.hid (((Turned.refl (fun i => i = g) wr).setCell (p := ⟨g, 5, none⟩) (.inl rfl) (.int .i64 (body.length : Int))).setCell (p := ⟨g, 6, none⟩) (.inl rfl) (.bool false))
      go_roundw
      case rel =>
        first
        | exact .inr ⟨rfl, HF.out, T2.out⟩
        | ((repeat apply Exists.intro); exact ⟨.inr ⟨rfl, HF.out, T2.out⟩, rfl⟩)
      case measure => simp [intOf]
    · have L1 := Lib.hid l1
      have T1 := Lib.hid t1
      clear l1 t1
      go_wp2_with fail
      go_ret
      exact ⟨rfl, L1.out, T1.out⟩
end Go.Proofs.YtfheikmjjijdpaaDoor
