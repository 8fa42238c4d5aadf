/-
 The document's step of words: the walk, part by part. No condition but that there are at most 1000000 words.
-/
import Derived.Test.YtglojnmcbochaaaGreatDoorURfT1
namespace Go.Proofs.YtglojnmcbochaaaGreatDoor
open Go.RowKit Go.Maps
set_option linter.unusedVariables false
set_option linter.unusedSimpArgs false

set_option maxRecDepth 100000 in
set_option maxHeartbeats 8000000 in
theorem rstep_ru (b off n c : Nat) (wd : List UInt8) (rs : WS) (w : World) (h : SlT w ⟨some ⟨b, off, none⟩, n, c⟩ (wd :: rs)) (hm : ∀ x ∈ wd :: rs, lenOk x) (hN : rs.length + 1 ≤ 1000000) (hx0 : wd = [114, 117, 110] ∧ rs ≠ []) : Calls Tryz.prog 27 #[.slice (some ⟨b, off, none⟩) n c] w (RtPost (wd :: rs) w) := by
 have mixed : Tryz.prog.follows .mixedOrders = true := by kernel_rfl
 have hn2 : n = rs.length + 1 := by have := h.len; simp only [List.length_cons] at this; omega
 have hc0 : w.cell? ⟨b, off, none⟩ = some (.string ⟨wd.toArray⟩) := by
  obtain ⟨b2, off2, hA, hc⟩ := h.cells (show 0 < n by omega)
  simp only at hA
  injection hA with hA
  injection hA with e1 e2
  subst e1 e2
  exact hc 0 (show 0 < n by omega)
 have hb : b < w.heap.size := World.block_lt_of_cell? w ⟨b, off, none⟩ hc0
 have hle := h.le
 have hmx := h.max
 unfold maxLen at hmx
 simp only at hle hmx
 have hn1 : (1 : Int) ≤ (n : Int) := by omega
 have hn0 : ((n : Int) == 0) = false := by simp; omega
 have hnp : 0 < n := by omega
 have hnp2 : (0 : Int) < (n : Int) := by omega
 have hx := hZ hx0
 clear hx0
 have h' := hZ h
 have hm' := hZ hm
 have hn2' := hZ hn2
 have hst := hZ (show stepW (wd :: rs) = (if wd = [102, 108, 117, 115, 104] then only rs { StepV.zero with kind := 3 }
  else if wd = [109, 97, 114, 107] then only rs { StepV.zero with kind := 4 }
  else if wd = [111, 112, 101, 110] then only rs { StepV.zero with kind := 6 }
  else if wd = [99, 114, 97, 115, 104] then crashC rs
  else if wd = [97, 114, 109] then armC rs
  else if wd = [114, 117, 110] then runC rs
  else if wd = [97, 115, 107] then askC0 rs
  else none) from rfl)
 clear h hm hn2
 go_enter Tryz.func27, Tryz.ntmps27
 go_upto_region 3 with fail
 have ta := hZ ((Turned.refl (fun _ => False) w).alloc (.cells #[.int .u8 0, .int .i64 0, .int .i64 0, .int .u8 0, .int .i64 0, .string ⟨#[]⟩, .int .i64 0, .int .i64 0, .int .i64 0, .int .i64 0, .int .i64 0, .int .i64 0, .slice none 0 0, .slice none 0 0, .slice none 0 0] 31))
 have xr := hZ (Blk.new w 31 #[.int .u8 0, .int .i64 0, .int .i64 0, .int .u8 0, .int .i64 0, .string ⟨#[]⟩, .int .i64 0, .int .i64 0, .int .i64 0, .int .i64 0, .int .i64 0, .int .i64 0, .slice none 0 0, .slice none 0 0, .slice none 0 0])
 obtain ⟨wa, hwa⟩ : ∃ wa, wa = w.alloc (.cells #[.int .u8 0, .int .i64 0, .int .i64 0, .int .u8 0, .int .i64 0, .string ⟨#[]⟩, .int .i64 0, .int .i64 0, .int .i64 0, .int .i64 0, .int .i64 0, .int .i64 0, .slice none 0 0, .slice none 0 0, .slice none 0 0] 31) := ⟨_, rfl⟩
 have hza : wa.heap.size = w.heap.size + 1 := by rw [hwa]; simp
 rw [← hwa] at ta xr ⊢
 clear hwa
 have ha0 : wa.cell? ⟨b, off, none⟩ = some (.string ⟨wd.toArray⟩) := cell_turned ta.out hc0 (fun e => e)
 have hsa := hZ (h'.out.fresh ta.out)
 clear hc0 h'
 obtain ⟨br, hbr⟩ : ∃ br, w.heap.size = br := ⟨_, rfl⟩
 rw [hbr] at xr hza hb ⊢
 have hzq := hZ hza
 clear hza
 have hbrw := hZ hbr
 clear hbr
 go_cut [4] from 3 to 4 (fun u4 wc => ∃ s0 : Sl, u4 = .slice s0.A s0.n s0.c ∧ wc = wa ∧ SlT wa s0 rs ∧ (∀ b' o, s0.A = some ⟨b', o, none⟩ → b' = b))
 case first =>
  clear ha0
  go_wp2_with fail
  ·have hc1 : c = 1 := by assumption
   subst hc1
   go_meet
   have := hsa.out.dropAll 1 (by have := hn2'.out; omega) rfl
   exact ⟨⟨some ⟨b, off, none⟩, n - 1, 0⟩, rfl, rfl, this, (fun b' o e => by injection e with e; injection e with e _; exact e.symm)⟩
  ·go_meet
   have := hsa.out.dropK 1 (by have := hn2'.out; omega)
   exact ⟨⟨some ⟨b, off + 1, none⟩, n - 1, c - 1⟩, rfl, rfl, this, (fun b' o e => by injection e with e; injection e with e _; exact e.symm)⟩
 case rest =>
  obtain ⟨⟨sA, sn, sc⟩, rfl, rfl, R0z, hAb⟩ := hcut
  have R0y := hZ R0z
  clear R0z
  have hAc := hZ hAb
  clear hAb
  have hmr := hZ (show ∀ y ∈ rs, lenOk y from fun y hy => hm'.out y (by simp [hy]))
  have hrN := hZ (show rs.length ≤ 1000000 by omega)
  clear hm' hsa hn2' hN hle hmx hn1 hn0
  have tb := (Turned.refl (fun _ => False) wc).alloc (.cells #[.int .u8 0, .int .i64 0, .int .i64 0, .int .u8 0, .int .i64 0, .string ⟨#[]⟩, .int .i64 0, .int .i64 0, .int .i64 0, .int .i64 0, .int .i64 0, .int .i64 0, .slice none 0 0, .slice none 0 0, .slice none 0 0] 31)
  have XX := hZ (Blk.new wc 31 #[.int .u8 0, .int .i64 0, .int .i64 0, .int .u8 0, .int .i64 0, .string ⟨#[]⟩, .int .i64 0, .int .i64 0, .int .i64 0, .int .i64 0, .int .i64 0, .int .i64 0, .slice none 0 0, .slice none 0 0, .slice none 0 0])
  have XR := hZ (xr.out.turned tb (fun e => e))
  have TT := hZ (ta.out.and_ tb)
  have R0 := hZ (R0y.out.fresh tb)
  have hc0 : (wc.alloc (.cells #[.int .u8 0, .int .i64 0, .int .i64 0, .int .u8 0, .int .i64 0, .string ⟨#[]⟩, .int .i64 0, .int .i64 0, .int .i64 0, .int .i64 0, .int .i64 0, .int .i64 0, .slice none 0 0, .slice none 0 0, .slice none 0 0] 31)).cell? ⟨b, off, none⟩ = some (.string ⟨wd.toArray⟩) := cell_turned tb ha0 (fun e => e)
  have hz2 := hZ (show (wc.alloc (.cells #[.int .u8 0, .int .i64 0, .int .i64 0, .int .u8 0, .int .i64 0, .string ⟨#[]⟩, .int .i64 0, .int .i64 0, .int .i64 0, .int .i64 0, .int .i64 0, .int .i64 0, .slice none 0 0, .slice none 0 0, .slice none 0 0] 31)).heap.size = br + 2 from by rw [World.size_alloc, hzq.out])
  clear tb xr ta ha0 R0y
  go_upto_block 0 with fail
  obtain ⟨W2, hW2⟩ : ∃ W2, W2 = wc.alloc (.cells #[.int .u8 0, .int .i64 0, .int .i64 0, .int .u8 0, .int .i64 0, .string ⟨#[]⟩, .int .i64 0, .int .i64 0, .int .i64 0, .int .i64 0, .int .i64 0, .int .i64 0, .slice none 0 0, .slice none 0 0, .slice none 0 0] 31) := ⟨_, rfl⟩
  rw [← hW2] at XX XR TT R0 hc0 hz2 ⊢
  clear hW2
  obtain ⟨bx, hbx⟩ : ∃ bx, wc.heap.size = bx := ⟨_, rfl⟩
  rw [hbx] at XX ⊢
  have hbb : br < bx := by have := hzq.out; omega
  have hw0 : w.heap.size ≤ br := by have := hbrw.out; omega
  have hbw : b < w.heap.size := by have := hbrw.out; omega
  clear hbx hzq hbrw
  have h_flush : ¬ wd = [102, 108, 117, 115, 104] := by rw [hx.out.1]; decide
  have n_flush := h_flush
  clear h_flush
  have q_flush : (wd == [102, 108, 117, 115, 104]) = false := beq_eq_false_iff_ne.2 n_flush
  have h_mark : ¬ wd = [109, 97, 114, 107] := by rw [hx.out.1]; decide
  have n_mark := h_mark
  clear h_mark
  have q_mark : (wd == [109, 97, 114, 107]) = false := beq_eq_false_iff_ne.2 n_mark
  have h_open : ¬ wd = [111, 112, 101, 110] := by rw [hx.out.1]; decide
  have n_open := h_open
  clear h_open
  have q_open : (wd == [111, 112, 101, 110]) = false := beq_eq_false_iff_ne.2 n_open
  have h_crash : ¬ wd = [99, 114, 97, 115, 104] := by rw [hx.out.1]; decide
  have n_crash := h_crash
  clear h_crash
  have q_crash : (wd == [99, 114, 97, 115, 104]) = false := beq_eq_false_iff_ne.2 n_crash
  have h_arm : ¬ wd = [97, 114, 109] := by rw [hx.out.1]; decide
  have n_arm := h_arm
  clear h_arm
  have q_arm : (wd == [97, 114, 109]) = false := beq_eq_false_iff_ne.2 n_arm
  have h_run := hx.out.1
  have hx := hZ hx.out.2
  cases rs with
  | nil => exact absurd rfl hx.out
  | cons y t =>
   have hl0 := R0.out.len
   simp only [List.length_cons] at hl0
   have hl1 : ((sn : Int) == 0) = false := by simp; omega
   have hl2 : 0 < sn := by omega
   have hl3 : (0 : Int) < (sn : Int) := by omega
   clear hl0
   obtain ⟨b6, off6, hA6, hc6⟩ := R0.out.cells hl2
   simp only at hA6 hc6
   subst hA6
   have hy : W2.cell? ⟨b6, off6, none⟩ = some (.string ⟨y.toArray⟩) := hc6 0 hl2
   clear hc6
   have hyl : y.length ≤ 9223372036854775807 := by have := hmr.out y (by simp); unfold lenOk at this; omega
   have hses := hZ (fun W => rsession_any y W hyl)
   go_wp2_with fail
   refine (hses.out _).mono ?_
   rintro e wq ⟨sv, rfl, hs64, hsm0, hwq⟩
   rw [hwq]
   clear hwq wq hses
   go_upto_block 3 with fail
   have q_run : (wd == [114, 117, 110]) = true := by rw [h_run]; rfl
   have hs := hst.out
   rw [if_neg n_flush] at hs
   rw [if_neg n_mark] at hs
   rw [if_neg n_open] at hs
   rw [if_neg n_crash] at hs
   rw [if_neg n_arm] at hs
   rw [if_pos h_run] at hs
   have hs := hZ hs
   clear hst h_run
   have hA := hZ (run_eq y t)
   have hsm := hZ hsm0
   clear hsm0
   obtain ⟨z0, z1, z2, z3, z4, z5, z6, z7, z8, z9, z10, z11, z12, z13, z14⟩ := XX.out.cells15
   have zf := XX.out.frozen
   obtain ⟨y0, y1, y2, y3, y4, y5, y6, y7, y8, y9, y10, y11, y12, y13, y14⟩ := XR.out.cells15
   have yf := XR.out.frozen
   have tS := (turned_one W2 bx 0 (.int .u8 2)).eq_ (turned_one _ bx 1 (.int .i64 sv))
   have XR2 := hZ (XR.out.turned tS (by omega))
   have TT2 := hZ (TT.out.trans tS (fun _ e => e) (fun i e => .inr (by subst e; omega)))
   clear tS
   generalize sessW y = so at *
   cases so with
   | none =>
    go_wp2_with fail
    obtain ⟨wz, hwz, XZ, tZ⟩ := fin15 (.int .u8 2) (.int .i64 sv) (.int .i64 0) (.int .u8 0) (.int .i64 0) (.string ⟨#[]⟩) (.int .i64 0) (.int .i64 0) (.int .i64 0) (.int .i64 0) (.int .i64 0) (.int .i64 0) (.slice none 0 0) (.slice none 0 0) (.slice none 0 0) XR2.out
    rw [hwz]
    clear hwz
    obtain ⟨e0, e1, e2, e3, e4, e5, e6, e7, e8, e9, e10, e11, e12, e13, e14⟩ := XZ.cells15
    refine bodyPost_ret (v := .tuple #[.agg #[.int .u8 2, .int .i64 sv, .int .i64 0, .int .u8 0, .int .i64 0, .string ⟨#[]⟩, .int .i64 0, .int .i64 0, .int .i64 0, .int .i64 0, .int .i64 0, .int .i64 0, .slice none 0 0, .slice none 0 0, .slice none 0 0], .bool false]) (by simp [results, Tryz.results27, go_sem, e0, e1, e2, e3, e4, e5, e6, e7, e8, e9, e10, e11, e12, e13, e14]) rfl ?_
    exact ⟨{ StepV.zero with kind := 2, session := sv }, AskS.nil, Sl.nil, false, rfl, StpOwn.nil _ _ _ rfl rfl rfl, ⟨(show isByte (2 : Int) by unfold isByte; decide), hs64, I64_zero, AskV.Ok.zero, (fun n h => by cases h)⟩, (by rw [hs.out]; exact hA.out), TT2.out.trans tZ (fun _ e => e) (fun i e => .inr (by subst e; omega))⟩
   | some so =>
    obtain rfl := hsm.out so rfl
    cases t with
    | nil =>
     have hl0 : sn = 1 := R0.out.len.symm
     have hl1 : ((sn : Int) == 1) = true := by rw [hl0]; rfl
     clear hl0
     go_wp2_with fail
     obtain ⟨wz, hwz, XZ, tZ⟩ := fin15 (.int .u8 2) (.int .i64 sv) (.int .i64 0) (.int .u8 0) (.int .i64 0) (.string ⟨#[]⟩) (.int .i64 0) (.int .i64 0) (.int .i64 0) (.int .i64 0) (.int .i64 0) (.int .i64 0) (.slice none 0 0) (.slice none 0 0) (.slice none 0 0) XR2.out
     rw [hwz]
     clear hwz
     obtain ⟨e0, e1, e2, e3, e4, e5, e6, e7, e8, e9, e10, e11, e12, e13, e14⟩ := XZ.cells15
     refine bodyPost_ret (v := .tuple #[.agg #[.int .u8 2, .int .i64 sv, .int .i64 0, .int .u8 0, .int .i64 0, .string ⟨#[]⟩, .int .i64 0, .int .i64 0, .int .i64 0, .int .i64 0, .int .i64 0, .int .i64 0, .slice none 0 0, .slice none 0 0, .slice none 0 0], .bool true]) (by simp [results, Tryz.results27, go_sem, e0, e1, e2, e3, e4, e5, e6, e7, e8, e9, e10, e11, e12, e13, e14]) rfl ?_
     exact ⟨{ StepV.zero with kind := 2, session := sv }, AskS.nil, Sl.nil, true, rfl, StpOwn.nil _ _ _ rfl rfl rfl, ⟨(show isByte (2 : Int) by unfold isByte; decide), hs64, I64_zero, AskV.Ok.zero, (fun n h => by cases h)⟩, (by rw [hs.out]; exact hA.out), TT2.out.trans tZ (fun _ e => e) (fun i e => .inr (by subst e; omega))⟩
    | cons y2 t2 =>
     have hl0 := R0.out.len
     simp only [List.length_cons] at hl0
     have hl1 : ((sn : Int) == 1) = false := by simp; omega
     clear hl0
     go_wp2_with fail
     obtain ⟨wz, hwz, XZ, tZ⟩ := fin15 (.int .u8 2) (.int .i64 sv) (.int .i64 0) (.int .u8 0) (.int .i64 0) (.string ⟨#[]⟩) (.int .i64 0) (.int .i64 0) (.int .i64 0) (.int .i64 0) (.int .i64 0) (.int .i64 0) (.slice none 0 0) (.slice none 0 0) (.slice none 0 0) XR2.out
     rw [hwz]
     clear hwz
     obtain ⟨e0, e1, e2, e3, e4, e5, e6, e7, e8, e9, e10, e11, e12, e13, e14⟩ := XZ.cells15
     refine bodyPost_ret (v := .tuple #[.agg #[.int .u8 2, .int .i64 sv, .int .i64 0, .int .u8 0, .int .i64 0, .string ⟨#[]⟩, .int .i64 0, .int .i64 0, .int .i64 0, .int .i64 0, .int .i64 0, .int .i64 0, .slice none 0 0, .slice none 0 0, .slice none 0 0], .bool false]) (by simp [results, Tryz.results27, go_sem, e0, e1, e2, e3, e4, e5, e6, e7, e8, e9, e10, e11, e12, e13, e14]) rfl ?_
     exact ⟨{ StepV.zero with kind := 2, session := sv }, AskS.nil, Sl.nil, false, rfl, StpOwn.nil _ _ _ rfl rfl rfl, ⟨(show isByte (2 : Int) by unfold isByte; decide), hs64, I64_zero, AskV.Ok.zero, (fun n h => by cases h)⟩, (by rw [hs.out]; exact hA.out), TT2.out.trans tZ (fun _ e => e) (fun i e => .inr (by subst e; omega))⟩
set_option maxRecDepth 100000 in
set_option maxHeartbeats 8000000 in
theorem rstep_no (b off n c : Nat) (wd : List UInt8) (rs : WS) (w : World) (h : SlT w ⟨some ⟨b, off, none⟩, n, c⟩ (wd :: rs)) (hm : ∀ x ∈ wd :: rs, lenOk x) (hN : rs.length + 1 ≤ 1000000) (hx0 : ¬ wd = [102, 108, 117, 115, 104] ∧ ¬ wd = [109, 97, 114, 107] ∧ ¬ wd = [111, 112, 101, 110] ∧ ¬ wd = [99, 114, 97, 115, 104] ∧ ¬ wd = [97, 114, 109] ∧ ¬ wd = [114, 117, 110] ∧ rs ≠ [] ∧ ¬ wd = [97, 115, 107]) : Calls Tryz.prog 27 #[.slice (some ⟨b, off, none⟩) n c] w (RtPost (wd :: rs) w) := by
 have mixed : Tryz.prog.follows .mixedOrders = true := by kernel_rfl
 have hn2 : n = rs.length + 1 := by have := h.len; simp only [List.length_cons] at this; omega
 have hc0 : w.cell? ⟨b, off, none⟩ = some (.string ⟨wd.toArray⟩) := by
  obtain ⟨b2, off2, hA, hc⟩ := h.cells (show 0 < n by omega)
  simp only at hA
  injection hA with hA
  injection hA with e1 e2
  subst e1 e2
  exact hc 0 (show 0 < n by omega)
 have hb : b < w.heap.size := World.block_lt_of_cell? w ⟨b, off, none⟩ hc0
 have hle := h.le
 have hmx := h.max
 unfold maxLen at hmx
 simp only at hle hmx
 have hn1 : (1 : Int) ≤ (n : Int) := by omega
 have hn0 : ((n : Int) == 0) = false := by simp; omega
 have hnp : 0 < n := by omega
 have hnp2 : (0 : Int) < (n : Int) := by omega
 have hx := hZ hx0
 clear hx0
 have h' := hZ h
 have hm' := hZ hm
 have hn2' := hZ hn2
 have hst := hZ (show stepW (wd :: rs) = (if wd = [102, 108, 117, 115, 104] then only rs { StepV.zero with kind := 3 }
  else if wd = [109, 97, 114, 107] then only rs { StepV.zero with kind := 4 }
  else if wd = [111, 112, 101, 110] then only rs { StepV.zero with kind := 6 }
  else if wd = [99, 114, 97, 115, 104] then crashC rs
  else if wd = [97, 114, 109] then armC rs
  else if wd = [114, 117, 110] then runC rs
  else if wd = [97, 115, 107] then askC0 rs
  else none) from rfl)
 clear h hm hn2
 go_enter Tryz.func27, Tryz.ntmps27
 go_upto_region 3 with fail
 have ta := hZ ((Turned.refl (fun _ => False) w).alloc (.cells #[.int .u8 0, .int .i64 0, .int .i64 0, .int .u8 0, .int .i64 0, .string ⟨#[]⟩, .int .i64 0, .int .i64 0, .int .i64 0, .int .i64 0, .int .i64 0, .int .i64 0, .slice none 0 0, .slice none 0 0, .slice none 0 0] 31))
 have xr := hZ (Blk.new w 31 #[.int .u8 0, .int .i64 0, .int .i64 0, .int .u8 0, .int .i64 0, .string ⟨#[]⟩, .int .i64 0, .int .i64 0, .int .i64 0, .int .i64 0, .int .i64 0, .int .i64 0, .slice none 0 0, .slice none 0 0, .slice none 0 0])
 obtain ⟨wa, hwa⟩ : ∃ wa, wa = w.alloc (.cells #[.int .u8 0, .int .i64 0, .int .i64 0, .int .u8 0, .int .i64 0, .string ⟨#[]⟩, .int .i64 0, .int .i64 0, .int .i64 0, .int .i64 0, .int .i64 0, .int .i64 0, .slice none 0 0, .slice none 0 0, .slice none 0 0] 31) := ⟨_, rfl⟩
 have hza : wa.heap.size = w.heap.size + 1 := by rw [hwa]; simp
 rw [← hwa] at ta xr ⊢
 clear hwa
 have ha0 : wa.cell? ⟨b, off, none⟩ = some (.string ⟨wd.toArray⟩) := cell_turned ta.out hc0 (fun e => e)
 have hsa := hZ (h'.out.fresh ta.out)
 clear hc0 h'
 obtain ⟨br, hbr⟩ : ∃ br, w.heap.size = br := ⟨_, rfl⟩
 rw [hbr] at xr hza hb ⊢
 have hzq := hZ hza
 clear hza
 have hbrw := hZ hbr
 clear hbr
 go_cut [4] from 3 to 4 (fun u4 wc => ∃ s0 : Sl, u4 = .slice s0.A s0.n s0.c ∧ wc = wa ∧ SlT wa s0 rs ∧ (∀ b' o, s0.A = some ⟨b', o, none⟩ → b' = b))
 case first =>
  clear ha0
  go_wp2_with fail
  ·have hc1 : c = 1 := by assumption
   subst hc1
   go_meet
   have := hsa.out.dropAll 1 (by have := hn2'.out; omega) rfl
   exact ⟨⟨some ⟨b, off, none⟩, n - 1, 0⟩, rfl, rfl, this, (fun b' o e => by injection e with e; injection e with e _; exact e.symm)⟩
  ·go_meet
   have := hsa.out.dropK 1 (by have := hn2'.out; omega)
   exact ⟨⟨some ⟨b, off + 1, none⟩, n - 1, c - 1⟩, rfl, rfl, this, (fun b' o e => by injection e with e; injection e with e _; exact e.symm)⟩
 case rest =>
  obtain ⟨⟨sA, sn, sc⟩, rfl, rfl, R0z, hAb⟩ := hcut
  have R0y := hZ R0z
  clear R0z
  have hAc := hZ hAb
  clear hAb
  have hmr := hZ (show ∀ y ∈ rs, lenOk y from fun y hy => hm'.out y (by simp [hy]))
  have hrN := hZ (show rs.length ≤ 1000000 by omega)
  clear hm' hsa hn2' hN hle hmx hn1 hn0
  have tb := (Turned.refl (fun _ => False) wc).alloc (.cells #[.int .u8 0, .int .i64 0, .int .i64 0, .int .u8 0, .int .i64 0, .string ⟨#[]⟩, .int .i64 0, .int .i64 0, .int .i64 0, .int .i64 0, .int .i64 0, .int .i64 0, .slice none 0 0, .slice none 0 0, .slice none 0 0] 31)
  have XX := hZ (Blk.new wc 31 #[.int .u8 0, .int .i64 0, .int .i64 0, .int .u8 0, .int .i64 0, .string ⟨#[]⟩, .int .i64 0, .int .i64 0, .int .i64 0, .int .i64 0, .int .i64 0, .int .i64 0, .slice none 0 0, .slice none 0 0, .slice none 0 0])
  have XR := hZ (xr.out.turned tb (fun e => e))
  have TT := hZ (ta.out.and_ tb)
  have R0 := hZ (R0y.out.fresh tb)
  have hc0 : (wc.alloc (.cells #[.int .u8 0, .int .i64 0, .int .i64 0, .int .u8 0, .int .i64 0, .string ⟨#[]⟩, .int .i64 0, .int .i64 0, .int .i64 0, .int .i64 0, .int .i64 0, .int .i64 0, .slice none 0 0, .slice none 0 0, .slice none 0 0] 31)).cell? ⟨b, off, none⟩ = some (.string ⟨wd.toArray⟩) := cell_turned tb ha0 (fun e => e)
  have hz2 := hZ (show (wc.alloc (.cells #[.int .u8 0, .int .i64 0, .int .i64 0, .int .u8 0, .int .i64 0, .string ⟨#[]⟩, .int .i64 0, .int .i64 0, .int .i64 0, .int .i64 0, .int .i64 0, .int .i64 0, .slice none 0 0, .slice none 0 0, .slice none 0 0] 31)).heap.size = br + 2 from by rw [World.size_alloc, hzq.out])
  clear tb xr ta ha0 R0y
  go_upto_block 0 with fail
  obtain ⟨W2, hW2⟩ : ∃ W2, W2 = wc.alloc (.cells #[.int .u8 0, .int .i64 0, .int .i64 0, .int .u8 0, .int .i64 0, .string ⟨#[]⟩, .int .i64 0, .int .i64 0, .int .i64 0, .int .i64 0, .int .i64 0, .int .i64 0, .slice none 0 0, .slice none 0 0, .slice none 0 0] 31) := ⟨_, rfl⟩
  rw [← hW2] at XX XR TT R0 hc0 hz2 ⊢
  clear hW2
  obtain ⟨bx, hbx⟩ : ∃ bx, wc.heap.size = bx := ⟨_, rfl⟩
  rw [hbx] at XX ⊢
  have hbb : br < bx := by have := hzq.out; omega
  have hw0 : w.heap.size ≤ br := by have := hbrw.out; omega
  have hbw : b < w.heap.size := by have := hbrw.out; omega
  clear hbx hzq hbrw
  have h_flush := hx.out.1
  have n_flush := h_flush
  clear h_flush
  have q_flush : (wd == [102, 108, 117, 115, 104]) = false := beq_eq_false_iff_ne.2 n_flush
  have h_mark := hx.out.2.1
  have n_mark := h_mark
  clear h_mark
  have q_mark : (wd == [109, 97, 114, 107]) = false := beq_eq_false_iff_ne.2 n_mark
  have h_open := hx.out.2.2.1
  have n_open := h_open
  clear h_open
  have q_open : (wd == [111, 112, 101, 110]) = false := beq_eq_false_iff_ne.2 n_open
  have h_crash := hx.out.2.2.2.1
  have n_crash := h_crash
  clear h_crash
  have q_crash : (wd == [99, 114, 97, 115, 104]) = false := beq_eq_false_iff_ne.2 n_crash
  have h_arm := hx.out.2.2.2.2.1
  have n_arm := h_arm
  clear h_arm
  have q_arm : (wd == [97, 114, 109]) = false := beq_eq_false_iff_ne.2 n_arm
  have h_run := hx.out.2.2.2.2.2.1
  have n_run := h_run
  clear h_run
  have q_run : (wd == [114, 117, 110]) = false := beq_eq_false_iff_ne.2 n_run
  have h_ask := hx.out.2.2.2.2.2.2.2
  have n_ask := h_ask
  clear h_ask
  have q_ask : (wd == [97, 115, 107]) = false := beq_eq_false_iff_ne.2 n_ask
  have hx := hZ hx.out.2.2.2.2.2.2.1
  cases rs with
  | nil => exact absurd rfl hx.out
  | cons y t =>
   have hl0 := R0.out.len
   simp only [List.length_cons] at hl0
   have hl1 : ((sn : Int) == 0) = false := by simp; omega
   have hl2 : 0 < sn := by omega
   have hl3 : (0 : Int) < (sn : Int) := by omega
   clear hl0
   obtain ⟨b6, off6, hA6, hc6⟩ := R0.out.cells hl2
   simp only at hA6 hc6
   subst hA6
   have hy : W2.cell? ⟨b6, off6, none⟩ = some (.string ⟨y.toArray⟩) := hc6 0 hl2
   clear hc6
   have hyl : y.length ≤ 9223372036854775807 := by have := hmr.out y (by simp); unfold lenOk at this; omega
   have hses := hZ (fun W => rsession_any y W hyl)
   go_wp2_with fail
   refine (hses.out _).mono ?_
   rintro e wq ⟨sv, rfl, hs64, hsm0, hwq⟩
   rw [hwq]
   clear hwq wq hses
   go_upto_block 3 with fail
   have hs := hst.out
   rw [if_neg n_flush] at hs
   rw [if_neg n_mark] at hs
   rw [if_neg n_open] at hs
   rw [if_neg n_crash] at hs
   rw [if_neg n_arm] at hs
   rw [if_neg n_run] at hs
   rw [if_neg n_ask] at hs
   have hs := hZ hs
   clear hst hy
   obtain ⟨z0, z1, z2, z3, z4, z5, z6, z7, z8, z9, z10, z11, z12, z13, z14⟩ := XX.out.cells15
   have zf := XX.out.frozen
   obtain ⟨y0, y1, y2, y3, y4, y5, y6, y7, y8, y9, y10, y11, y12, y13, y14⟩ := XR.out.cells15
   have yf := XR.out.frozen
   go_wp2_with fail
   obtain ⟨wz, hwz, XZ, tZ⟩ := fin15 (.int .u8 0) (.int .i64 0) (.int .i64 0) (.int .u8 0) (.int .i64 0) (.string ⟨#[]⟩) (.int .i64 0) (.int .i64 0) (.int .i64 0) (.int .i64 0) (.int .i64 0) (.int .i64 0) (.slice none 0 0) (.slice none 0 0) (.slice none 0 0) XR.out
   rw [hwz]
   clear hwz
   obtain ⟨e0, e1, e2, e3, e4, e5, e6, e7, e8, e9, e10, e11, e12, e13, e14⟩ := XZ.cells15
   refine bodyPost_ret (v := .tuple #[.agg #[.int .u8 0, .int .i64 0, .int .i64 0, .int .u8 0, .int .i64 0, .string ⟨#[]⟩, .int .i64 0, .int .i64 0, .int .i64 0, .int .i64 0, .int .i64 0, .int .i64 0, .slice none 0 0, .slice none 0 0, .slice none 0 0], .bool false]) (by simp [results, Tryz.results27, go_sem, e0, e1, e2, e3, e4, e5, e6, e7, e8, e9, e10, e11, e12, e13, e14]) rfl ?_
   exact ⟨StepV.zero, AskS.nil, Sl.nil, false, rfl, StpOwn.nil _ _ _ rfl rfl rfl, ⟨(show isByte (0 : Int) by unfold isByte; decide), I64_zero, I64_zero, AskV.Ok.zero, (fun n h => by cases h)⟩, hs.out, TT.out.trans tZ (fun _ e => e) (fun i e => .inr (by subst e; omega))⟩
end Go.Proofs.YtglojnmcbochaaaGreatDoor

