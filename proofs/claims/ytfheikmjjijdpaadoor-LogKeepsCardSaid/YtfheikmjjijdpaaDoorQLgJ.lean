/-
  ytfheikmjjijdpaadoor: laws and walks on the road to LogKeeps, joined: LgH Shb LgI LgJ. Conditions stand at each theorem.
-/
import Derived.Test.YtfheikmjjijdpaaDoorQLgG
import Derived.Shelf.LaysM
import Derived.Shelf.Bytes.GrowSliceCatch
import Derived.Shelf.Bytes.GrowSlice
import Derived.Shelf.Bytes.LenAt
import Derived.Shelf.Bytes.TryGrowAt
import Derived.Shelf.Bytes.GrowRow0At
import Derived.Shelf.Bytes.GrowRowAt
import Derived.Shelf.Bytes.GrowNilAt
import Derived.Shelf.Bytes.GrowAt
import Derived.Shelf.Bytes.WriteByteAt
import Derived.Shelf.Bytes.WriteAt
import Derived.Ground.SlbCloneProg
import Derived.Shelf.Bytes.SlClone
import Derived.Ground.SlgnProg
import Derived.Shelf.SlicesG.SearchI
import Derived.Test.YtfheikmjjijdpaaDoorProg
namespace Go.Proofs.YtfheikmjjijdpaaDoor
open Go.RowKit Go.Maps
set_option linter.unusedVariables false
set_option linter.unusedSimpArgs false

theorem shtC_set56 (num turn bef used safe safe' : Int) (A : Option Addr) (n c : Nat) (lost lost' : Bool) : ((shtC num turn bef used A n c safe lost).setIfInBounds 5 (.int .i64 safe')).setIfInBounds 6 (.bool lost') = shtC num turn bef used A n c safe' lost' := by unfold shtC; simp only [List.setIfInBounds_toArray, List.set_cons_zero, List.set_cons_succ]
theorem LogW.set56 {w : World} {B : Nat} {X : LgS} (h : LogW w B X) (v : Int) (b : Bool) : LogW ((w.setCell ⟨X.g, 5, none⟩ (.int .i64 v)).setCell ⟨X.g, 6, none⟩ (.bool b)) B { X with safe := v, lost := b } := by
  obtain ⟨p1, p2, p3, p4, p5, p6⟩ := h.apart
  have ts := ((Turned.refl (fun i => i = X.g) w).setCell (p := ⟨X.g, 5, none⟩) (.inl rfl) (.int .i64 v)).setCell (p := ⟨X.g, 6, none⟩) (.inl rfl) (.bool b)
  have hset := (h.sht.blk.set_ 5 (.int .i64 v)).set_ 6 (.bool b)
  rw [shtC_set56] at hset
  exact ⟨h.blk.turned ts (fun e => p2 e), h.shs.turned ts (fun e => p4 e), h.psl, h.lsn.turned ts (fun q e e2 => (h.lsnApart e).2.2.1 e2), ⟨hset, h.sht.bod.turned ts (fun e => p6 e.symm)⟩, h.bL, h.bS, h.bg, h.bb, h.bl, h.cB, h.kB, h.nB, h.hB, h.lB⟩
set_option maxRecDepth 100000 in
set_option maxHeartbeats 2000000 in
theorem lforce1_any (B ms mo bl : Nat) (X : LgS) (A : DA) (w : World) (h : LogW w B X) (hbl : w.cell? ⟨bl, 0, none⟩ = some (.pointer (some ⟨X.L, 0, none⟩))) (hk : X.k = 0) (hD : IsDisk w X.d ms mo A) (hdn : A.down = false) (har : tickD A.armed = false) (hdB : ∀ i, dskW X.d ms mo i → i < B) (hBw : B ≤ w.heap.size) (hwant : X.safe ≠ (X.body.length : Int)) (hn1 : 0 < X.body.length) (hn2 : X.body.length < 496) (hb : ∀ z ∈ X.body, isByte z) (hf : 0 ≤ X.first) (hs : X.first + X.count ≤ A.n) :
    Calls Tryd.prog 45 #[.pointer (some ⟨bl, 0, none⟩)] w (LWr B ms mo X A w) := by
  have HW := Lib.hid (lwrite_any B ms mo X A w h hD hdn hdB hBw hwant hn1 hn2 hb hf hs)
  obtain ⟨L, d, Sb, g, gb, first, count, turn, oldest, k, cS, ps, Al, cl, ls, num, tn, bef, used, safe, body, c, lost⟩ := X
  simp only at *
  subst hk
  have H := Lib.hid h
  have x5 : w.cell? ⟨L, 5, none⟩ = some (.slice (some ⟨Sb, 0, none⟩) 1 cS) := H.out.blk.cell 5
  have xg : w.cell? ⟨Sb, 0, none⟩ = some (.pointer (some ⟨g, 0, none⟩)) := H.out.read.lst
  unfold LWr at HW
  rw [har] at HW
  simp only [codeOf, Bool.false_eq_true, if_false] at HW
  clear h hD hdn hdB hBw hwant hn1 hn2 hb hf hs
  go_enter Tryd.func45, Tryd.ntmps45
  go_wp2_with fail
  go_loopw [3, 4, 10] (fun _ _ i wr => (i = .int .i64 0 ∧ wr = w) ∨ (i = .int .i64 1 ∧ IsDisk wr d ms mo (A.write (first + num % count) (shtL num turn bef body)) ∧ LogW wr B ⟨L, d, Sb, g, gb, first, count, turn, oldest, 0, cS, ps, Al, cl, ls, num, turn, bef, used, safe, body, c, lost⟩ ∧ Turned (fun i => i = g ∨ dskW d ms mo i) w wr)) (fun _ _ i _ => 1 - (intOf i).toNat)
  case atStart => exact .inl ⟨rfl, rfl⟩
  case round =>
    rcases hrel with ⟨rfl, rfl⟩ | ⟨rfl, d1, l1, t1⟩
    · go_wp2_with fail
      refine HW.out.mono ?_
      rintro e w2 ⟨rfl, d2, l2, t2⟩
      have D2 := Lib.hid d2
      have L2 := Lib.hid l2
      have T2 := Lib.hid t2
      clear d2 l2 t2 x5 xg
      go_wp2_with fail
      go_roundw
      case rel =>
        first
        | exact .inr ⟨rfl, D2.out, L2.out, T2.out⟩
        | ((repeat apply Exists.intro); exact ⟨.inr ⟨rfl, D2.out, L2.out, T2.out⟩, rfl⟩)
      case measure => simp [intOf]
    · have D1 := Lib.hid d1
      have L1 := Lib.hid l1
      have T1 := Lib.hid t1
      clear d1 l1 t1
      go_wp2_with fail
      go_ret
      exact ⟨by rw [har]; rfl, D1.out, L1.out, T1.out⟩
set_option maxRecDepth 100000 in
set_option maxHeartbeats 2000000 in
theorem lforce2_any (B bl : Nat) (X : LgS) (w : World) (h : LogW w B X) (hbl : w.cell? ⟨bl, 0, none⟩ = some (.pointer (some ⟨X.L, 0, none⟩))) (hk : X.k = 0) :
    Calls Tryd.prog 48 #[.pointer (some ⟨bl, 0, none⟩)] w (fun e w' => e = .returned (.int .i64 0) ∧ LogW w' B { X with safe := X.body.length, lost := false } ∧ Turned (fun i => i = X.g) w w') := by
  obtain ⟨L, d, Sb, g, gb, first, count, turn, oldest, k, cS, ps, Al, cl, ls, num, tn, bef, used, safe, body, c, lost⟩ := X
  simp only at *
  subst hk
  have H := Lib.hid h
  have x5 : w.cell? ⟨L, 5, none⟩ = some (.slice (some ⟨Sb, 0, none⟩) 1 cS) := H.out.blk.cell 5
  have xg : w.cell? ⟨Sb, 0, none⟩ = some (.pointer (some ⟨g, 0, none⟩)) := H.out.read.lst
  have x4 : w.cell? ⟨g, 4, none⟩ = some (.slice (some ⟨gb, 0, none⟩) body.length c) := H.out.sht.blk.cell 4
  have y5 : w.cell? ⟨g, 5, none⟩ = some (.int .i64 safe) := H.out.sht.blk.cell 5
  have y6 : w.cell? ⟨g, 6, none⟩ = some (.bool lost) := H.out.sht.blk.cell 6
  have f5 := H.out.sht.blk.frozen 5
  have f6 := H.out.sht.blk.frozen 6
  have HF := Lib.hid (h.set56 body.length false)
  have hq6 := Lib.hid (show (w.setCell ⟨g, 5, none⟩ (.int .i64 (body.length : Int))).cell? ⟨g, 6, none⟩ = some (.bool lost) from (H.out.sht.blk.set_ 5 _).cell 6)
  have hq7 := Lib.hid ((H.out.sht.blk.set_ 5 (.int .i64 (body.length : Int))).frozen 6)
  simp only at f5 f6
  have z6 := hq6.out
  have z7 := hq7.out
  simp only at z7
  clear h
  go_enter Tryd.func48, Tryd.ntmps48
  go_wp2_with fail
  go_loopw [3, 9] (fun _ i wr => (i = .int .i64 0 ∧ wr = w) ∨ (i = .int .i64 1 ∧ LogW wr B ⟨L, d, Sb, g, gb, first, count, turn, oldest, 0, cS, ps, Al, cl, ls, num, tn, bef, used, body.length, body, c, false⟩ ∧ Turned (fun i => i = g) w wr)) (fun _ i _ => 1 - (intOf i).toNat)
  case atStart => exact .inl ⟨rfl, rfl⟩
  case round =>
    rcases hrel with ⟨rfl, rfl⟩ | ⟨rfl, l1, t1⟩
    · go_wp2_with fail
      have T2 := Lib.hid (((Turned.refl (fun i => i = g) wr).setCell (p := ⟨g, 5, none⟩) (.inl rfl) (.int .i64 (body.length : Int))).setCell (p := ⟨g, 6, none⟩) (.inl rfl) (.bool false))
      go_roundw
      case rel =>
        first
        | exact .inr ⟨rfl, HF.out, T2.out⟩
        | ((repeat apply Exists.intro); exact ⟨.inr ⟨rfl, HF.out, T2.out⟩, rfl⟩)
      case measure => simp [intOf]
    · have L1 := Lib.hid l1
      have T1 := Lib.hid t1
      clear l1 t1
      go_wp2_with fail
      go_ret
      exact ⟨rfl, L1.out, T1.out⟩
end Go.Proofs.YtfheikmjjijdpaaDoor

namespace Go.Proofs
open Go.Shelf
def Tryd.laysSlN49_f49_ren : Go.Shelf.Ren := ⟨fun | 49 => 49 | 59 => 66 | 60 => 67 | 68 => 82 | n => n, fun | 22 => 63 | 23 => 2 | 3 => 3 | 4 => 4 | 51 => 100 | 0 => 0 | n => n, fun | n => n⟩
theorem Tryd.laysSlN49_f49 : Go.Proofs.SlLaysN.n49 Tryd.prog Tryd.laysSlN49_f49_ren := {
  mixed := by kernel_rfl
  f49 := ⟨Tryd.f49.name, by decide, Tryd.func49.trans (congrArg some (by kernel_rfl))⟩
  f59 := ⟨Tryd.f66.name, by decide, Tryd.func66.trans (congrArg some (by kernel_rfl))⟩
  f60 := ⟨Tryd.f67.name, by decide, Tryd.func67.trans (congrArg some (by kernel_rfl))⟩
  f68 := ⟨Tryd.f82.name, by decide, Tryd.func82.trans (congrArg some (by kernel_rfl))⟩
  t0 := Tryd.underlying0
  a0 := Tryd.isAgg0
  z0 := Tryd.sizeOf0
  v0 := Tryd.zeroValue0
  t3 := Tryd.underlying3
  a3 := Tryd.isAgg3
  z3 := Tryd.sizeOf3
  v3 := Tryd.zeroValue3
  t4 := Tryd.underlying4
  a4 := Tryd.isAgg4
  z4 := Tryd.sizeOf4
  v4 := Tryd.zeroValue4
  t22 := Tryd.underlying63
  a22 := Tryd.isAgg63
  z22 := Tryd.sizeOf63
  v22 := Tryd.zeroValue63
  t23 := Tryd.underlying2
  a23 := Tryd.isAgg2
  z23 := Tryd.sizeOf2
  v23 := Tryd.zeroValue2
  t51 := Tryd.underlying100
  a51 := Tryd.isAgg100
  z51 := Tryd.sizeOf100
  v51 := Tryd.zeroValue100 }
end Go.Proofs

namespace Go.Proofs.YtfheikmjjijdpaaDoor
open Go.RowKit Go.Maps Go.Proofs
set_option linter.unusedVariables false
set_option linter.unusedSimpArgs false

theorem i64s_get (l : List Int) (j : Nat) (hj : j < l.length) : (i64s l)[j]? = some (.int .i64 (l.getD j 0)) := by
  unfold i64s
  rw [List.getElem?_map, List.getElem?_eq_getElem hj, List.getD_eq_getElem?_getD, List.getElem?_eq_getElem hj]
  rfl
theorem lsearch_any (a n c : Nat) (zs : List Int) (x : Int) (w : World) (h : OwnE w 2 1 (some ⟨a, 0, none⟩) n c (i64s zs)) (hn : zs.length = n) (hn2 : n ≤ 10000000) (hs : zs.Pairwise (· ≤ ·)) :
    Calls Tryd.prog 49 #[.slice (some ⟨a, 0, none⟩) n c, .int .i64 x] w (fun e w' => e = .returned (.tuple #[.int .i64 ((zs.countP (· < x) : Nat) : Int), .bool (zs.contains x)]) ∧ ∃ q, w' = w.drewN q) := by
  have q := AnyG.slices_BinarySearch_int Tryd.laysSlN49_f49 a 0 n c zs x w (by omega) (by omega) (fun j hj => by
    rw [Nat.zero_add, h.row.cell? (by omega)]
    exact i64s_get zs j hj) (by rw [List.take_of_length_le (by omega)]; exact hs)
  rw [List.take_of_length_le (by omega)] at q
  exact q
set_option maxRecDepth 100000 in
set_option maxHeartbeats 2000000 in
theorem lsafe_any (B al q : Nat) (X : LgS) (w : World) (h : LogW w B X) (hk : X.k = 0) (hAl : X.Al = some ⟨al, 0, none⟩) (hs0 : 0 ≤ X.safe) (hs1 : X.safe < (X.body.length : Int)) (hp : X.ls.Pairwise (· ≤ ·)) (hq : X.ls.countP (· < X.num * 512 + X.safe + 1) = q) (hq2 : q < X.ls.length) :
    Calls Tryd.prog 24 #[.pointer (some ⟨X.L, 0, none⟩)] w (RetNew (.int .i64 (X.ls.getD q 0)) w) := by
  obtain ⟨L, d, Sb, g, gb, first, count, turn, oldest, k, cS, ps, Al, cl, ls, num, tn, bef, used, safe, body, c, lost⟩ := X
  simp only at *
  subst hk hAl
  have H := Lib.hid (fun (m : Nat) => h.fresh ((Turned.refl (fun _ => False) w).drewN m))
  have hbd : body.length ≤ 496 := h.hB
  have hnb : 0 ≤ num ∧ num ≤ 9007199254740000 := h.nB
  have hlb : ls.length ≤ 10000000 := h.lB
  have x0 := h.read.d0
  have x5 : w.cell? ⟨L, 5, none⟩ = some (.slice (some ⟨Sb, 0, none⟩) 1 cS) := h.blk.cell 5
  have xg : w.cell? ⟨Sb, 0, none⟩ = some (.pointer (some ⟨g, 0, none⟩)) := h.read.lst
  have y4 : w.cell? ⟨g, 4, none⟩ = some (.slice (some ⟨gb, 0, none⟩) body.length c) := h.sht.blk.cell 4
  have y5 : w.cell? ⟨g, 5, none⟩ = some (.int .i64 safe) := h.sht.blk.cell 5
  have y6 : w.cell? ⟨L, 6, none⟩ = some (.slice (some ⟨al, 0, none⟩) ls.length cl) := h.blk.cell 6
  have yq := Lib.hid (show w.cell? ⟨al, q, none⟩ = some (.int .i64 (ls.getD q 0)) from h.lsn.row.cell (i64s_get ls q hq2))
  generalize ls.getD q 0 = vq at *
  have HC := Lib.hid (fun (m : Nat) => lsearch_any al ls.length cl ls (num * 512 + safe + 1) (w.drewN m) (H.out m).lsn rfl (by have : ls.length ≤ 10000000 := hlb; omega) hp)
  rw [hq] at HC
  have HS := Lib.hid (fun (m : Nat) => llsn_any g num safe (w.drewN m) ((H.out m).sht.blk.cell 0) ⟨hnb.1, by omega⟩ ⟨hs0, by omega⟩)
  simp only at x0
  clear h hp hq
  generalize ls.contains (num * 512 + safe + 1) = bb at HC
  have hqi : (q : Int) < (ls.length : Int) := by omega
  go_enter Tryd.func24, Tryd.ntmps24
  go_wp2_with fail
  refine (lthere_yes L d w x0).mono ?_
  rintro e w1 ⟨rfl, rfl⟩
  go_wp2_with fail
  go_loopw [4, 5, 6, 15] (fun _ _ _ i wr => i = .int .i64 0 ∧ wr = w) (fun _ _ _ _ _ => 0)
  case atStart => exact ⟨rfl, rfl⟩
  case round =>
    obtain ⟨rfl, rfl⟩ := hrel
    go_wp2_with fail
    go_quiet (fail)
    have HS2 := Lib.hid (fun (m : Nat) => (by rw [World.drewN_drewN]; exact (HS.out (nq + m)).mono (fun _ _ ⟨he, hw⟩ => ⟨he, hw.symm⟩) : Calls Tryd.prog 35 #[.pointer (some ⟨g, 0, none⟩), .int .i64 safe] ((wr.drewN nq).drewN m) (fun e w' => e = .returned (.int .i64 (num * 512 + safe + 1)) ∧ w' = (wr.drewN nq).drewN m)))
    have HC2 := Lib.hid (fun (m : Nat) => (by rw [World.drewN_drewN]; exact HC.out (nq + m) : Calls Tryd.prog 49 #[.slice (some ⟨al, 0, none⟩) ls.length cl, .int .i64 (num * 512 + safe + 1)] ((wr.drewN nq).drewN m) (fun e w' => e = .returned (.tuple #[.int .i64 (q : Int), .bool bb]) ∧ ∃ q, w' = ((wr.drewN nq).drewN m).drewN q)))
    have TN := Lib.hid ((Turned.refl (fun _ => False) wr).drewN nq)
    have z6 : (wr.drewN nq).cell? ⟨L, 6, none⟩ = some (.slice (some ⟨al, 0, none⟩) ls.length cl) := (H.out nq).blk.cell 6
    have z5 : (wr.drewN nq).cell? ⟨g, 5, none⟩ = some (.int .i64 safe) := (H.out nq).sht.blk.cell 5
    have zq : (wr.drewN nq).cell? ⟨al, q, none⟩ = some (.int .i64 vq) := yq.out
    clear HS HC H x0 x5 xg y4 y5 y6 yq
    generalize wr.drewN nq = w2 at *
    go_wp2_with fail
    go_quiet (first | exact Calls.quiet_of_same (HS2.out _) | exact Calls.quiet_of (HC2.out _))
    have TM := Lib.hid (TN.out.drewN nq)
    go_wp2_with fail
    go_ret
    exact ⟨rfl, TM.out⟩
end Go.Proofs.YtfheikmjjijdpaaDoor

namespace Go.Proofs.YtfheikmjjijdpaaDoor
open Go.RowKit Go.Maps
set_option linter.unusedVariables false
set_option linter.unusedSimpArgs false

/-- The three steps stand in row r. -/
def RowF (w : World) (r bl d : Nat) : Prop := w.cell? ⟨r, 0, none⟩ = some (.func (.func 45) #[] #[.pointer (some ⟨bl, 0, none⟩)]) ∧ w.cell? ⟨r, 1, none⟩ = some (.func (.func 47) #[.pointer (some ⟨d, 0, none⟩)] #[]) ∧ w.cell? ⟨r, 2, none⟩ = some (.func (.func 48) #[] #[.pointer (some ⟨bl, 0, none⟩)])
set_option maxRecDepth 100000 in
set_option maxHeartbeats 2000000 in
theorem leach_any (r bl d : Nat) (P1 P2 P3 : World → Prop) (w : World) (h0 : RowF w r bl d) (h1 : ∀ w', P1 w' → RowF w' r bl d) (h2 : ∀ w', P2 w' → RowF w' r bl d)
    (C1 : Calls Tryd.prog 45 #[.pointer (some ⟨bl, 0, none⟩)] w (fun e w' => e = .returned (.int .i64 0) ∧ P1 w')) (C2 : ∀ w', P1 w' → Calls Tryd.prog 47 #[.pointer (some ⟨d, 0, none⟩)] w' (fun e w'' => e = .returned (.int .i64 0) ∧ P2 w'')) (C3 : ∀ w', P2 w' → Calls Tryd.prog 48 #[.pointer (some ⟨bl, 0, none⟩)] w' (fun e w'' => e = .returned (.int .i64 0) ∧ P3 w'')) :
    Calls Tryd.prog 44 #[.slice (some ⟨r, 0, none⟩) 3 3] w (fun e w' => e = .returned (.int .i64 0) ∧ P3 w') := by
  have H1 := Lib.hid h1; have H2 := Lib.hid h2; have K1 := Lib.hid C1; have K2 := Lib.hid C2; have K3 := Lib.hid C3; have H0 := Lib.hid h0
  clear h1 h2 C1 C2 C3 h0
  go_enter Tryd.func44, Tryd.ntmps44
  go_wp2_with fail
  go_loopw [4, 5, 8] (fun _ _ i wr => (i = .int .i64 0 ∧ wr = w) ∨ (i = .int .i64 1 ∧ P1 wr) ∨ (i = .int .i64 2 ∧ P2 wr) ∨ (i = .int .i64 3 ∧ P3 wr)) (fun _ _ i _ => 3 - (intOf i).toNat)
  case atStart => exact .inl ⟨rfl, rfl⟩
  case round =>
    rcases hrel with ⟨rfl, rfl⟩ | ⟨rfl, p⟩ | ⟨rfl, p⟩ | ⟨rfl, p⟩
    · have x := H0.out.1
      go_wp2_with fail
      refine K1.out.mono ?_
      rintro e w2 ⟨rfl, q⟩
      have Q := Lib.hid q
      clear q x
      go_wp2_with fail
      go_roundw
      case rel =>
        first
        | exact .inr (.inl ⟨rfl, Q.out⟩)
        | ((repeat apply Exists.intro); exact ⟨.inr (.inl ⟨rfl, Q.out⟩), rfl⟩)
      case measure => simp [intOf]
    · have x := (H1.out _ p).2.1
      have PP := Lib.hid p
      clear p
      go_wp2_with fail
      refine (K2.out _ PP.out).mono ?_
      rintro e w2 ⟨rfl, q⟩
      have Q := Lib.hid q
      clear q x
      go_wp2_with fail
      go_roundw
      case rel =>
        first
        | exact .inr (.inr (.inl ⟨rfl, Q.out⟩))
        | ((repeat apply Exists.intro); exact ⟨.inr (.inr (.inl ⟨rfl, Q.out⟩)), rfl⟩)
      case measure => simp [intOf]
    · have x := (H2.out _ p).2.2
      have PP := Lib.hid p
      clear p
      go_wp2_with fail
      refine (K3.out _ PP.out).mono ?_
      rintro e w2 ⟨rfl, q⟩
      have Q := Lib.hid q
      clear q x
      go_wp2_with fail
      go_roundw
      case rel =>
        first
        | exact .inr (.inr (.inr ⟨rfl, Q.out⟩))
        | ((repeat apply Exists.intro); exact ⟨.inr (.inr (.inr ⟨rfl, Q.out⟩)), rfl⟩)
      case measure => simp [intOf]
    · have PP := Lib.hid p
      clear p
      go_wp2_with fail
      go_ret
      exact ⟨rfl, PP.out⟩
/-- What Force leaves: the sheet on the disk, all safe. -/
def LForce (B ms mo : Nat) (X : LgS) (A : DA) (w : World) (e : Ending) (w' : World) : Prop := e = .returned (.int .i64 0) ∧ IsDisk w' X.d ms mo (A.write (X.first + X.num % X.count) (shtL X.num X.turn X.bef X.body)).sync ∧ LogW w' B { X with tn := X.turn, safe := X.body.length, lost := false } ∧ Turned (fun i => i = X.g ∨ dskW X.d ms mo i) w w'
set_option maxRecDepth 100000 in
set_option maxHeartbeats 2000000 in
theorem lforce_any (B ms mo al q : Nat) (X : LgS) (A : DA) (w : World) (h : LogW w B X) (hk : X.k = 0) (hD : IsDisk w X.d ms mo A) (hdn : A.down = false) (har : A.armed = 0) (hdB : ∀ i, dskW X.d ms mo i → i < B) (hBw : B ≤ w.heap.size) (hn2 : X.body.length < 496) (hb : ∀ z ∈ X.body, isByte z) (hf : 0 ≤ X.first) (hs : X.first + X.count ≤ A.n)
    (hAl : X.Al = some ⟨al, 0, none⟩) (hs0 : 0 ≤ X.safe) (hs1 : X.safe < (X.body.length : Int)) (hp : X.ls.Pairwise (· ≤ ·)) (hq : X.ls.countP (· < X.num * 512 + X.safe + 1) = q) (hq2 : q < X.ls.length) (hne : X.ls.getD q 0 ≠ X.num * 512 + (X.body.length : Int) + 1) :
    Calls Tryd.prog 15 #[.pointer (some ⟨X.L, 0, none⟩)] w (LForce B ms mo X A w) := by
  have mixed : Tryd.prog.follows .mixedOrders = true := by kernel_rfl
  have hmf : ∀ (fn : Fn) (first cap : Array Value) (w : World), (Instr.makeFunc fn first cap).run Tryd.prog w = .ok (.func fn first cap) w := fun _ _ _ _ => rfl
  have HSf := Lib.hid (fun (w' : World) (t : Turned (fun _ => False) w w') => lsafe_any B al q X w' (h.fresh t) hk hAl hs0 hs1 hp hq hq2)
  have HE := Lib.hid (fun (w' : World) (t : Turned (fun _ => False) w w') => lend_any _ _ _ _ _ _ _ _ _ _ _ w' (h.fresh t).read)
  have H1 := Lib.hid (fun (w' : World) (t : Turned (fun _ => False) w w') (bl : Nat) (hbl : w'.cell? ⟨bl, 0, none⟩ = some (.pointer (some ⟨X.L, 0, none⟩))) => lforce1_any B ms mo bl X A w' (h.fresh t) hbl hk (hD.fresh t) hdn (by rw [har]; rfl) hdB (Nat.le_trans hBw t.size) (by omega) (by omega) hn2 hb hf hs)
  have HY := Lib.hid (fun (w' : World) (d1 : IsDisk w' X.d ms mo (A.write (X.first + X.num % X.count) (shtL X.num X.turn X.bef X.body))) => sync_ok X.d ms mo _ w' d1 (by show tickD A.armed = false; rw [har]; rfl) (by show tickD (tickA A.armed) = false; rw [har]; rfl))
  have H2 := Lib.hid (fun (w' : World) (bl : Nat) (l : LogW w' B { X with tn := X.turn }) (hbl : w'.cell? ⟨bl, 0, none⟩ = some (.pointer (some ⟨X.L, 0, none⟩))) => lforce2_any B bl { X with tn := X.turn } w' l hbl hk)
  have HdB := Lib.hid hdB
  have HB := Lib.hid hBw
  have HL := Lib.hid h
  have hne2 : (X.ls.getD q 0 == X.num * 512 + (X.body.length : Int) + 1) = false := by simpa using hne
  have har2 := Lib.hid har
  clear hD hdn har hdB hBw hn2 hb hf hs hAl hs0 hs1 hp hq hq2 hne h
  obtain ⟨L, d, Sb, g, gb, first, count, turn, oldest, k, cS, ps, Al, cl, ls, num, tn, bef, used, safe, body, c, lost⟩ := X
  simp only at *
  obtain rfl : k = 0 := hk
  generalize ls.getD q 0 = vq at *
  generalize num * 512 + (body.length : Int) + 1 = ve at *
  have T0 := Lib.hid ((Turned.refl (fun _ => False) w).alloc (.cells #[.pointer (some ⟨L, 0, none⟩)] 24))
  have BB := Lib.hid (Blk.new w 24 #[.pointer (some ⟨L, 0, none⟩)])
  go_enter Tryd.func15, Tryd.ntmps15
  go_wp2_with fail
  generalize w.alloc (.cells #[.pointer (some ⟨L, 0, none⟩)] 24) = w0 at *
  obtain ⟨bl, hbl⟩ : ∃ bl, bl = w.heap.size := ⟨_, rfl⟩
  rw [← hbl] at BB ⊢
  have Hbl := Lib.hid hbl
  clear hbl
  refine (lthere_yes L d w0 (HL.out.fresh T0.out).read.d0).mono ?_
  rintro e w1 ⟨rfl, rfl⟩
  have xb : w0.cell? ⟨bl, 0, none⟩ = some (.pointer (some ⟨L, 0, none⟩)) := BB.out.cell 0
  go_wp2_with fail
  refine wp_region_segs (fun w' => w'.cell? ⟨bl, 0, none⟩ = some (.pointer (some ⟨L, 0, none⟩))) (segT [0, 2] ++ segF [1, 3] ++ segT [4, 5]) mixed (by kernel_rfl) (fun _ _ _ _ _ h => h) ?_
  simp only [segT, segF, pickSegs, List.map_cons, List.map_nil, List.cons_append, List.nil_append, List.filterMap_cons, List.filterMap_nil, List.getElem?_cons_zero, List.getElem?_cons_succ, Option.map_some]
  have T1 := Lib.hid T0.out.drew
  have U1 := Lib.hid ((Turned.refl (fun _ => False) w0).drew)
  have hS : w0.drew.cell? ⟨bl, 0, none⟩ = some (.pointer (some ⟨L, 0, none⟩)) := xb
  generalize w0.drew = v0 at *
  (refine wpSegs_take (v := ?_) hS rfl (fun w' hw => ?_) ?_; rotate_left; (focus (go_simp; (try with_reducible rfl); done)); try simp only [Act.put, List.setIfInBounds_toArray, List.set_cons_zero, List.set_cons_succ])
  (refine wpSegs_take (v := ?_) hS rfl (fun w' hw => ?_) ?_; rotate_left; (focus (go_simp; (try with_reducible rfl); done)); try simp only [Act.put, List.setIfInBounds_toArray, List.set_cons_zero, List.set_cons_succ])
  refine wpSegs_run rfl (fun K hK => ?_)
  go_simp
  refine (HSf.out _ T1.out).mono ?_
  rintro e v1 ⟨rfl, t1⟩
  have T2 := Lib.hid (T1.out.and_ t1)
  have U2 := Lib.hid (U1.out.and_ t1)
  have hS := cell_turned t1 hS (fun e => e)
  clear t1
  refine hK.out _ _ hS ?_
  clear hK K
  try simp only [Act.put, List.setIfInBounds_toArray, List.set_cons_zero, List.set_cons_succ]
  refine wpSegs_run rfl (fun K hK => ?_)
  go_simp
  refine (HE.out _ T2.out).mono ?_
  rintro e v2 ⟨rfl, t2⟩
  have T3 := Lib.hid (T2.out.and_ t2)
  have U3 := Lib.hid (U2.out.and_ t2)
  have hS := cell_turned t2 hS (fun e => e)
  clear t2
  refine hK.out _ _ hS ?_
  clear hK K
  try simp only [Act.put, List.setIfInBounds_toArray, List.set_cons_zero, List.set_cons_succ]
  (refine wpSegs_take (v := ?_) hS rfl (fun w' hw => ?_) ?_; rotate_left; (focus (go_simp; (try with_reducible rfl); done)); try simp only [Act.put, List.setIfInBounds_toArray, List.set_cons_zero, List.set_cons_succ])
  (refine wpSegs_take (v := ?_) hS rfl (fun w' hw => ?_) ?_; rotate_left; (focus (go_simp; (try with_reducible rfl); done)); try simp only [Act.put, List.setIfInBounds_toArray, List.set_cons_zero, List.set_cons_succ])
  refine wpSegs_nil ?_
  clear T1 T2 U1 U2 xb HSf HE
  have xb := hS
  clear hS
  have x0 : v2.cell? ⟨L, 0, none⟩ = some (.pointer (some ⟨d, 0, none⟩)) := (HL.out.fresh T3.out).read.d0
  go_wp2_with fail
  have s3 := T3.out.size
  have h1 := Hbl.out
  have h2 := HL.out.sht.blk.lt
  have h3 := HB.out
  simp only at h2
  have hrg : ¬ (v2.heap.size = g ∨ dskW d ms mo v2.heap.size) := fun e => by
    rcases e with e | e
    · omega
    · have := HdB.out _ e; omega
  have hbg : ¬ (bl = g ∨ dskW d ms mo bl) := fun e => by
    rcases e with e | e
    · omega
    · have := HdB.out _ e; omega
  have HR := Lib.hid hrg
  have HG := Lib.hid hbg
  clear h1 h2 h3 s3 hrg hbg
  have hr0 : RowF (v2.alloc (.cells #[.func (.func 45) #[] #[.pointer (some ⟨bl, 0, none⟩)], .func (.func 47) #[.pointer (some ⟨d, 0, none⟩)] #[], .func (.func 48) #[] #[.pointer (some ⟨bl, 0, none⟩)]] 49)) v2.heap.size bl d := ⟨(Blk.new v2 _ _).cell 0, (Blk.new v2 _ _).cell 1, (Blk.new v2 _ _).cell 2⟩
  have tv := (Turned.refl (fun _ => False) v2).alloc (.cells #[.func (.func 45) #[] #[.pointer (some ⟨bl, 0, none⟩)], .func (.func 47) #[.pointer (some ⟨d, 0, none⟩)] #[], .func (.func 48) #[] #[.pointer (some ⟨bl, 0, none⟩)]] 49)
  have hb0 := cell_turned tv xb (fun e => e)
  have T4 := Lib.hid (T3.out.and_ tv)
  clear xb x0 tv
  generalize v2.alloc (.cells #[.func (.func 45) #[] #[.pointer (some ⟨bl, 0, none⟩)], .func (.func 47) #[.pointer (some ⟨d, 0, none⟩)] #[], .func (.func 48) #[] #[.pointer (some ⟨bl, 0, none⟩)]] 49) = v3 at *
  generalize v2.heap.size = r at *
  refine (leach_any r bl d (fun w' => IsDisk w' d ms mo (A.write (first + num % count) (shtL num turn bef body)) ∧ LogW w' B ⟨L, d, Sb, g, gb, first, count, turn, oldest, 0, cS, ps, Al, cl, ls, num, turn, bef, used, safe, body, c, lost⟩ ∧ Turned (fun i => i = g ∨ dskW d ms mo i) v3 w') (fun w' => IsDisk w' d ms mo (A.write (first + num % count) (shtL num turn bef body)).sync ∧ LogW w' B ⟨L, d, Sb, g, gb, first, count, turn, oldest, 0, cS, ps, Al, cl, ls, num, turn, bef, used, safe, body, c, lost⟩ ∧ Turned (fun i => i = g ∨ dskW d ms mo i) v3 w') (fun w' => IsDisk w' d ms mo (A.write (first + num % count) (shtL num turn bef body)).sync ∧ LogW w' B ⟨L, d, Sb, g, gb, first, count, turn, oldest, 0, cS, ps, Al, cl, ls, num, turn, bef, used, (body.length : Int), body, c, false⟩ ∧ Turned (fun i => i = g ∨ dskW d ms mo i) v3 w') v3 hr0 (fun w' p => ⟨cell_turned p.2.2 hr0.1 HR.out, cell_turned p.2.2 hr0.2.1 HR.out, cell_turned p.2.2 hr0.2.2 HR.out⟩) (fun w' p => ⟨cell_turned p.2.2 hr0.1 HR.out, cell_turned p.2.2 hr0.2.1 HR.out, cell_turned p.2.2 hr0.2.2 HR.out⟩) ?_ ?_ ?_).mono ?_
  · refine (H1.out v3 T4.out bl hb0).mono ?_
    rintro e w5 ⟨rfl, d5, l5, t5⟩
    exact ⟨by rw [har2.out]; rfl, d5, l5, t5⟩
  · intro w5 p
    refine (HY.out w5 p.1).mono ?_
    rintro e w6 ⟨rfl, d6, t6⟩
    exact ⟨rfl, d6, p.2.1.far t6 (fun i hi e => by have := HdB.out i e; omega), p.2.2.trans t6 (fun _ e => e) (fun _ e => .inl (.inr e))⟩
  · intro w6 p
    refine (H2.out w6 bl p.2.1 (cell_turned p.2.2 hb0 HG.out)).mono ?_
    rintro e w7 ⟨rfl, l7, t7⟩
    have hgB : B ≤ g := HL.out.bg
    exact ⟨rfl, p.1.turned t7 (fun q hq e => by have h1 := HdB.out q hq; have h2 : q = g := e; omega), l7, p.2.2.trans t7 (fun _ e => e) (fun _ e => .inl (.inl e))⟩
  · rintro e w8 ⟨rfl, d8, l8, t8⟩
    have D8 := Lib.hid d8
    have L8 := Lib.hid l8
    have T8 := Lib.hid ((T4.out.mono (W' := (fun i => i = g ∨ dskW d ms mo i)) (fun _ e => e.elim)).trans t8 (fun _ e => e) (fun _ e => .inl e))
    clear d8 l8 t8
    go_wp2_with fail
    go_ret
    exact ⟨rfl, D8.out, L8.out, T8.out⟩
end Go.Proofs.YtfheikmjjijdpaaDoor

