/-
  slices.BinarySearch over Lsns; log.Safe for a log of one sheet, part of which is not safe. Conditions: the Lsns rise; one of them is not safe.
-/
import Derived.Test.YtfheikmjjijdpaaDoorLgH
import Derived.Test.YtfheikmjjijdpaaDoorShb
namespace Go.Proofs.YtfheikmjjijdpaaDoor
open Go.RowKit Go.Maps Go.Proofs
set_option linter.unusedVariables false
set_option linter.unusedSimpArgs false

theorem i64s_get (l : List Int) (j : Nat) (hj : j < l.length) : (i64s l)[j]? = some (.int .i64 (l.getD j 0)) := by
  unfold i64s
  rw [List.getElem?_map, List.getElem?_eq_getElem hj, List.getD_eq_getElem?_getD, List.getElem?_eq_getElem hj]
  rfl
theorem lsearch_any (a n c : Nat) (zs : List Int) (x : Int) (w : World) (h : OwnE w 2 1 (some ⟨a, 0, none⟩) n c (i64s zs)) (hn : zs.length = n) (hn2 : n ≤ 10000000) (hs : zs.Pairwise (· ≤ ·)) :
    Calls Tryd.prog 49 #[.slice (some ⟨a, 0, none⟩) n c, .int .i64 x] w (fun e w' => e = .returned (.tuple #[.int .i64 ((zs.countP (· < x) : Nat) : Int), .bool (zs.contains x)]) ∧ ∃ q, w' = w.drewN q) := by
  have q := AnyG.slices_BinarySearch_int Tryd.laysSlN49_f49 a 0 n c zs x w (by omega) (by omega) (fun j hj => by
    rw [Nat.zero_add, h.row.cell? (by omega)]
    exact i64s_get zs j hj) (by rw [List.take_of_length_le (by omega)]; exact hs)
  rw [List.take_of_length_le (by omega)] at q
  exact q
set_option maxRecDepth 100000 in
set_option maxHeartbeats 2000000 in
theorem lsafe_any (B al q : Nat) (X : LgS) (w : World) (h : LogW w B X) (hk : X.k = 0) (hAl : X.Al = some ⟨al, 0, none⟩) (hs0 : 0 ≤ X.safe) (hs1 : X.safe < (X.body.length : Int)) (hp : X.ls.Pairwise (· ≤ ·)) (hq : X.ls.countP (· < X.num * 512 + X.safe + 1) = q) (hq2 : q < X.ls.length) :
    Calls Tryd.prog 24 #[.pointer (some ⟨X.L, 0, none⟩)] w (RetNew (.int .i64 (X.ls.getD q 0)) w) := by
  obtain ⟨L, d, Sb, g, gb, first, count, turn, oldest, k, cS, ps, Al, cl, ls, num, tn, bef, used, safe, body, c, lost⟩ := X
  simp only at *
  subst hk hAl
  have H := Lib.hid (fun (m : Nat) => h.fresh ((Turned.refl (fun _ => False) w).drewN m))
  have hbd : body.length ≤ 496 := h.hB
  have hnb : 0 ≤ num ∧ num ≤ 9007199254740000 := h.nB
  have hlb : ls.length ≤ 10000000 := h.lB
  have x0 := h.read.d0
  have x5 : w.cell? ⟨L, 5, none⟩ = some (.slice (some ⟨Sb, 0, none⟩) 1 cS) := h.blk.cell 5
  have xg : w.cell? ⟨Sb, 0, none⟩ = some (.pointer (some ⟨g, 0, none⟩)) := h.read.lst
  have y4 : w.cell? ⟨g, 4, none⟩ = some (.slice (some ⟨gb, 0, none⟩) body.length c) := h.sht.blk.cell 4
  have y5 : w.cell? ⟨g, 5, none⟩ = some (.int .i64 safe) := h.sht.blk.cell 5
  have y6 : w.cell? ⟨L, 6, none⟩ = some (.slice (some ⟨al, 0, none⟩) ls.length cl) := h.blk.cell 6
  have yq := Lib.hid (show w.cell? ⟨al, q, none⟩ = some (.int .i64 (ls.getD q 0)) from h.lsn.row.cell (i64s_get ls q hq2))
  generalize ls.getD q 0 = vq at *
  have HC := Lib.hid (fun (m : Nat) => lsearch_any al ls.length cl ls (num * 512 + safe + 1) (w.drewN m) (H.out m).lsn rfl (by have : ls.length ≤ 10000000 := hlb; omega) hp)
  rw [hq] at HC
  have HS := Lib.hid (fun (m : Nat) => llsn_any g num safe (w.drewN m) ((H.out m).sht.blk.cell 0) ⟨hnb.1, by omega⟩ ⟨hs0, by omega⟩)
  simp only at x0
  clear h hp hq
  generalize ls.contains (num * 512 + safe + 1) = bb at HC
  have hqi : (q : Int) < (ls.length : Int) := by omega
  go_enter Tryd.func24, Tryd.ntmps24
  go_wp2_with fail
  refine (lthere_yes L d w x0).mono ?_
  rintro e w1 ⟨rfl, rfl⟩
  go_wp2_with fail
  go_loopw [4, 5, 6, 15] (fun _ _ _ i wr => i = .int .i64 0 ∧ wr = w) (fun _ _ _ _ _ => 0)
  case atStart => exact ⟨rfl, rfl⟩
  case round =>
    obtain ⟨rfl, rfl⟩ := hrel
    go_wp2_with fail
    go_quiet (fail)
    have HS2 := Lib.hid (fun (m : Nat) => (by rw [World.drewN_drewN]; exact (HS.out (nq + m)).mono (fun _ _ ⟨he, hw⟩ => ⟨he, hw.symm⟩) : Calls Tryd.prog 35 #[.pointer (some ⟨g, 0, none⟩), .int .i64 safe] ((wr.drewN nq).drewN m) (fun e w' => e = .returned (.int .i64 (num * 512 + safe + 1)) ∧ w' = (wr.drewN nq).drewN m)))
    have HC2 := Lib.hid (fun (m : Nat) => (by rw [World.drewN_drewN]; exact HC.out (nq + m) : Calls Tryd.prog 49 #[.slice (some ⟨al, 0, none⟩) ls.length cl, .int .i64 (num * 512 + safe + 1)] ((wr.drewN nq).drewN m) (fun e w' => e = .returned (.tuple #[.int .i64 (q : Int), .bool bb]) ∧ ∃ q, w' = ((wr.drewN nq).drewN m).drewN q)))
    have TN := Lib.hid ((Turned.refl (fun _ => False) wr).drewN nq)
    have z6 : (wr.drewN nq).cell? ⟨L, 6, none⟩ = some (.slice (some ⟨al, 0, none⟩) ls.length cl) := (H.out nq).blk.cell 6
    have z5 : (wr.drewN nq).cell? ⟨g, 5, none⟩ = some (.int .i64 safe) := (H.out nq).sht.blk.cell 5
    have zq : (wr.drewN nq).cell? ⟨al, q, none⟩ = some (.int .i64 vq) := yq.out
    clear HS HC H x0 x5 xg y4 y5 y6 yq
    generalize wr.drewN nq = w2 at *
    go_wp2_with fail
    go_quiet (first | exact Calls.quiet_of_same (HS2.out _) | exact Calls.quiet_of (HC2.out _))
    have TM := Lib.hid (TN.out.drewN nq)
    go_wp2_with fail
    go_ret
    exact ⟨rfl, TM.out⟩
end Go.Proofs.YtfheikmjjijdpaaDoor
