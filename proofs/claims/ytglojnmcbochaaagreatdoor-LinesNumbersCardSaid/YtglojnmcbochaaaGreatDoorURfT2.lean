/-
 The document's step of words: the walk, part by part. No condition but that there are at most 1000000 words.
-/
import Derived.Test.YtglojnmcbochaaaGreatDoorURfT1
namespace Go.Proofs.YtglojnmcbochaaaGreatDoor
open Go.RowKit Go.Maps
set_option linter.unusedVariables false
set_option linter.unusedSimpArgs false

set_option maxRecDepth 100000 in
set_option maxHeartbeats 8000000 in
theorem rstep_op (b off n c : Nat) (wd : List UInt8) (rs : WS) (w : World) (h : SlT w ⟨some ⟨b, off, none⟩, n, c⟩ (wd :: rs)) (hm : ∀ x ∈ wd :: rs, lenOk x) (hN : rs.length + 1 ≤ 1000000) (hx0 : wd = [111, 112, 101, 110]) : Calls Tryz.prog 27 #[.slice (some ⟨b, off, none⟩) n c] w (RtPost (wd :: rs) w) := by
 have mixed : Tryz.prog.follows .mixedOrders = true := by kernel_rfl
 have hn2 : n = rs.length + 1 := by have := h.len; simp only [List.length_cons] at this; omega
 have hc0 : w.cell? ⟨b, off, none⟩ = some (.string ⟨wd.toArray⟩) := by
  obtain ⟨b2, off2, hA, hc⟩ := h.cells (show 0 < n by omega)
  simp only at hA
  injection hA with hA
  injection hA with e1 e2
  subst e1 e2
  exact hc 0 (show 0 < n by omega)
 have hb : b < w.heap.size := World.block_lt_of_cell? w ⟨b, off, none⟩ hc0
 have hle := h.le
 have hmx := h.max
 unfold maxLen at hmx
 simp only at hle hmx
 have hn1 : (1 : Int) ≤ (n : Int) := by omega
 have hn0 : ((n : Int) == 0) = false := by simp; omega
 have hnp : 0 < n := by omega
 have hnp2 : (0 : Int) < (n : Int) := by omega
 have hx := hZ hx0
 clear hx0
 have h' := hZ h
 have hm' := hZ hm
 have hn2' := hZ hn2
 have hst := hZ (show stepW (wd :: rs) = (if wd = [102, 108, 117, 115, 104] then only rs { StepV.zero with kind := 3 }
  else if wd = [109, 97, 114, 107] then only rs { StepV.zero with kind := 4 }
  else if wd = [111, 112, 101, 110] then only rs { StepV.zero with kind := 6 }
  else if wd = [99, 114, 97, 115, 104] then crashC rs
  else if wd = [97, 114, 109] then armC rs
  else if wd = [114, 117, 110] then runC rs
  else if wd = [97, 115, 107] then askC0 rs
  else none) from rfl)
 clear h hm hn2
 go_enter Tryz.func27, Tryz.ntmps27
 go_upto_region 3 with fail
 have ta := hZ ((Turned.refl (fun _ => False) w).alloc (.cells #[.int .u8 0, .int .i64 0, .int .i64 0, .int .u8 0, .int .i64 0, .string ⟨#[]⟩, .int .i64 0, .int .i64 0, .int .i64 0, .int .i64 0, .int .i64 0, .int .i64 0, .slice none 0 0, .slice none 0 0, .slice none 0 0] 31))
 have xr := hZ (Blk.new w 31 #[.int .u8 0, .int .i64 0, .int .i64 0, .int .u8 0, .int .i64 0, .string ⟨#[]⟩, .int .i64 0, .int .i64 0, .int .i64 0, .int .i64 0, .int .i64 0, .int .i64 0, .slice none 0 0, .slice none 0 0, .slice none 0 0])
 obtain ⟨wa, hwa⟩ : ∃ wa, wa = w.alloc (.cells #[.int .u8 0, .int .i64 0, .int .i64 0, .int .u8 0, .int .i64 0, .string ⟨#[]⟩, .int .i64 0, .int .i64 0, .int .i64 0, .int .i64 0, .int .i64 0, .int .i64 0, .slice none 0 0, .slice none 0 0, .slice none 0 0] 31) := ⟨_, rfl⟩
 have hza : wa.heap.size = w.heap.size + 1 := by rw [hwa]; simp
 rw [← hwa] at ta xr ⊢
 clear hwa
 have ha0 : wa.cell? ⟨b, off, none⟩ = some (.string ⟨wd.toArray⟩) := cell_turned ta.out hc0 (fun e => e)
 have hsa := hZ (h'.out.fresh ta.out)
 clear hc0 h'
 obtain ⟨br, hbr⟩ : ∃ br, w.heap.size = br := ⟨_, rfl⟩
 rw [hbr] at xr hza hb ⊢
 have hzq := hZ hza
 clear hza
 have hbrw := hZ hbr
 clear hbr
 go_cut [4] from 3 to 4 (fun u4 wc => ∃ s0 : Sl, u4 = .slice s0.A s0.n s0.c ∧ wc = wa ∧ SlT wa s0 rs ∧ (∀ b' o, s0.A = some ⟨b', o, none⟩ → b' = b))
 case first =>
  clear ha0
  go_wp2_with fail
  ·have hc1 : c = 1 := by assumption
   subst hc1
   go_meet
   have := hsa.out.dropAll 1 (by have := hn2'.out; omega) rfl
   exact ⟨⟨some ⟨b, off, none⟩, n - 1, 0⟩, rfl, rfl, this, (fun b' o e => by injection e with e; injection e with e _; exact e.symm)⟩
  ·go_meet
   have := hsa.out.dropK 1 (by have := hn2'.out; omega)
   exact ⟨⟨some ⟨b, off + 1, none⟩, n - 1, c - 1⟩, rfl, rfl, this, (fun b' o e => by injection e with e; injection e with e _; exact e.symm)⟩
 case rest =>
  obtain ⟨⟨sA, sn, sc⟩, rfl, rfl, R0z, hAb⟩ := hcut
  have R0y := hZ R0z
  clear R0z
  have hAc := hZ hAb
  clear hAb
  have hmr := hZ (show ∀ y ∈ rs, lenOk y from fun y hy => hm'.out y (by simp [hy]))
  have hrN := hZ (show rs.length ≤ 1000000 by omega)
  clear hm' hsa hn2' hN hle hmx hn1 hn0
  have tb := (Turned.refl (fun _ => False) wc).alloc (.cells #[.int .u8 0, .int .i64 0, .int .i64 0, .int .u8 0, .int .i64 0, .string ⟨#[]⟩, .int .i64 0, .int .i64 0, .int .i64 0, .int .i64 0, .int .i64 0, .int .i64 0, .slice none 0 0, .slice none 0 0, .slice none 0 0] 31)
  have XX := hZ (Blk.new wc 31 #[.int .u8 0, .int .i64 0, .int .i64 0, .int .u8 0, .int .i64 0, .string ⟨#[]⟩, .int .i64 0, .int .i64 0, .int .i64 0, .int .i64 0, .int .i64 0, .int .i64 0, .slice none 0 0, .slice none 0 0, .slice none 0 0])
  have XR := hZ (xr.out.turned tb (fun e => e))
  have TT := hZ (ta.out.and_ tb)
  have R0 := hZ (R0y.out.fresh tb)
  have hc0 : (wc.alloc (.cells #[.int .u8 0, .int .i64 0, .int .i64 0, .int .u8 0, .int .i64 0, .string ⟨#[]⟩, .int .i64 0, .int .i64 0, .int .i64 0, .int .i64 0, .int .i64 0, .int .i64 0, .slice none 0 0, .slice none 0 0, .slice none 0 0] 31)).cell? ⟨b, off, none⟩ = some (.string ⟨wd.toArray⟩) := cell_turned tb ha0 (fun e => e)
  have hz2 := hZ (show (wc.alloc (.cells #[.int .u8 0, .int .i64 0, .int .i64 0, .int .u8 0, .int .i64 0, .string ⟨#[]⟩, .int .i64 0, .int .i64 0, .int .i64 0, .int .i64 0, .int .i64 0, .int .i64 0, .slice none 0 0, .slice none 0 0, .slice none 0 0] 31)).heap.size = br + 2 from by rw [World.size_alloc, hzq.out])
  clear tb xr ta ha0 R0y
  go_upto_block 0 with fail
  obtain ⟨W2, hW2⟩ : ∃ W2, W2 = wc.alloc (.cells #[.int .u8 0, .int .i64 0, .int .i64 0, .int .u8 0, .int .i64 0, .string ⟨#[]⟩, .int .i64 0, .int .i64 0, .int .i64 0, .int .i64 0, .int .i64 0, .int .i64 0, .slice none 0 0, .slice none 0 0, .slice none 0 0] 31) := ⟨_, rfl⟩
  rw [← hW2] at XX XR TT R0 hc0 hz2 ⊢
  clear hW2
  obtain ⟨bx, hbx⟩ : ∃ bx, wc.heap.size = bx := ⟨_, rfl⟩
  rw [hbx] at XX ⊢
  have hbb : br < bx := by have := hzq.out; omega
  have hw0 : w.heap.size ≤ br := by have := hbrw.out; omega
  have hbw : b < w.heap.size := by have := hbrw.out; omega
  clear hbx hzq hbrw
  have h_flush : ¬ wd = [102, 108, 117, 115, 104] := by rw [hx.out]; decide
  have n_flush := h_flush
  clear h_flush
  have q_flush : (wd == [102, 108, 117, 115, 104]) = false := beq_eq_false_iff_ne.2 n_flush
  have h_mark : ¬ wd = [109, 97, 114, 107] := by rw [hx.out]; decide
  have n_mark := h_mark
  clear h_mark
  have q_mark : (wd == [109, 97, 114, 107]) = false := beq_eq_false_iff_ne.2 n_mark
  have h_open := hx.out
  have q_open : (wd == [111, 112, 101, 110]) = true := by rw [h_open]; rfl
  have hs := hst.out
  rw [if_neg n_flush] at hs
  rw [if_neg n_mark] at hs
  rw [if_pos h_open] at hs
  have hs := hZ hs
  clear hst h_open
  obtain ⟨z0, z1, z2, z3, z4, z5, z6, z7, z8, z9, z10, z11, z12, z13, z14⟩ := XX.out.cells15
  have zf := XX.out.frozen
  obtain ⟨y0, y1, y2, y3, y4, y5, y6, y7, y8, y9, y10, y11, y12, y13, y14⟩ := XR.out.cells15
  have yf := XR.out.frozen
  have tS := turned_one W2 bx 0 (.int .u8 6)
  have XR2 := hZ (XR.out.turned tS (by omega))
  have TT2 := hZ (TT.out.trans tS (fun _ e => e) (fun i e => .inr (by subst e; omega)))
  clear tS
  cases rs with
  | nil =>
   have hl0 : sn = 0 := R0.out.len.symm
   have hl1 : ((sn : Int) == 0) = true := by rw [hl0]; rfl
   clear hl0
   go_wp2_with fail
   obtain ⟨wz, hwz, XZ, tZ⟩ := fin15 (.int .u8 6) (.int .i64 0) (.int .i64 0) (.int .u8 0) (.int .i64 0) (.string ⟨#[]⟩) (.int .i64 0) (.int .i64 0) (.int .i64 0) (.int .i64 0) (.int .i64 0) (.int .i64 0) (.slice none 0 0) (.slice none 0 0) (.slice none 0 0) XR2.out
   rw [hwz]
   clear hwz
   obtain ⟨e0, e1, e2, e3, e4, e5, e6, e7, e8, e9, e10, e11, e12, e13, e14⟩ := XZ.cells15
   refine bodyPost_ret (v := .tuple #[.agg #[.int .u8 6, .int .i64 0, .int .i64 0, .int .u8 0, .int .i64 0, .string ⟨#[]⟩, .int .i64 0, .int .i64 0, .int .i64 0, .int .i64 0, .int .i64 0, .int .i64 0, .slice none 0 0, .slice none 0 0, .slice none 0 0], .bool true]) (by simp [results, Tryz.results27, go_sem, e0, e1, e2, e3, e4, e5, e6, e7, e8, e9, e10, e11, e12, e13, e14]) rfl ?_
   exact ⟨{ StepV.zero with kind := 6 }, AskS.nil, Sl.nil, true, rfl, StpOwn.nil _ _ _ rfl rfl rfl, ⟨(show isByte (6 : Int) by unfold isByte; decide), I64_zero, I64_zero, AskV.Ok.zero, (fun n h => by cases h)⟩, hs.out, TT2.out.trans tZ (fun _ e => e) (fun i e => .inr (by subst e; omega))⟩
  | cons y t =>
   have hl0 := R0.out.len
   simp only [List.length_cons] at hl0
   have hl1 : ((sn : Int) == 0) = false := by simp; omega
   clear hl0
   go_wp2_with fail
   obtain ⟨wz, hwz, XZ, tZ⟩ := fin15 (.int .u8 6) (.int .i64 0) (.int .i64 0) (.int .u8 0) (.int .i64 0) (.string ⟨#[]⟩) (.int .i64 0) (.int .i64 0) (.int .i64 0) (.int .i64 0) (.int .i64 0) (.int .i64 0) (.slice none 0 0) (.slice none 0 0) (.slice none 0 0) XR2.out
   rw [hwz]
   clear hwz
   obtain ⟨e0, e1, e2, e3, e4, e5, e6, e7, e8, e9, e10, e11, e12, e13, e14⟩ := XZ.cells15
   refine bodyPost_ret (v := .tuple #[.agg #[.int .u8 6, .int .i64 0, .int .i64 0, .int .u8 0, .int .i64 0, .string ⟨#[]⟩, .int .i64 0, .int .i64 0, .int .i64 0, .int .i64 0, .int .i64 0, .int .i64 0, .slice none 0 0, .slice none 0 0, .slice none 0 0], .bool false]) (by simp [results, Tryz.results27, go_sem, e0, e1, e2, e3, e4, e5, e6, e7, e8, e9, e10, e11, e12, e13, e14]) rfl ?_
   exact ⟨{ StepV.zero with kind := 6 }, AskS.nil, Sl.nil, false, rfl, StpOwn.nil _ _ _ rfl rfl rfl, ⟨(show isByte (6 : Int) by unfold isByte; decide), I64_zero, I64_zero, AskV.Ok.zero, (fun n h => by cases h)⟩, hs.out, TT2.out.trans tZ (fun _ e => e) (fun i e => .inr (by subst e; omega))⟩
set_option maxRecDepth 100000 in
set_option maxHeartbeats 8000000 in
theorem rstep_cr (b off n c : Nat) (wd : List UInt8) (rs : WS) (w : World) (h : SlT w ⟨some ⟨b, off, none⟩, n, c⟩ (wd :: rs)) (hm : ∀ x ∈ wd :: rs, lenOk x) (hN : rs.length + 1 ≤ 1000000) (hx0 : wd = [99, 114, 97, 115, 104]) : Calls Tryz.prog 27 #[.slice (some ⟨b, off, none⟩) n c] w (RtPost (wd :: rs) w) := by
 have mixed : Tryz.prog.follows .mixedOrders = true := by kernel_rfl
 have hn2 : n = rs.length + 1 := by have := h.len; simp only [List.length_cons] at this; omega
 have hc0 : w.cell? ⟨b, off, none⟩ = some (.string ⟨wd.toArray⟩) := by
  obtain ⟨b2, off2, hA, hc⟩ := h.cells (show 0 < n by omega)
  simp only at hA
  injection hA with hA
  injection hA with e1 e2
  subst e1 e2
  exact hc 0 (show 0 < n by omega)
 have hb : b < w.heap.size := World.block_lt_of_cell? w ⟨b, off, none⟩ hc0
 have hle := h.le
 have hmx := h.max
 unfold maxLen at hmx
 simp only at hle hmx
 have hn1 : (1 : Int) ≤ (n : Int) := by omega
 have hn0 : ((n : Int) == 0) = false := by simp; omega
 have hnp : 0 < n := by omega
 have hnp2 : (0 : Int) < (n : Int) := by omega
 have hx := hZ hx0
 clear hx0
 have h' := hZ h
 have hm' := hZ hm
 have hn2' := hZ hn2
 have hst := hZ (show stepW (wd :: rs) = (if wd = [102, 108, 117, 115, 104] then only rs { StepV.zero with kind := 3 }
  else if wd = [109, 97, 114, 107] then only rs { StepV.zero with kind := 4 }
  else if wd = [111, 112, 101, 110] then only rs { StepV.zero with kind := 6 }
  else if wd = [99, 114, 97, 115, 104] then crashC rs
  else if wd = [97, 114, 109] then armC rs
  else if wd = [114, 117, 110] then runC rs
  else if wd = [97, 115, 107] then askC0 rs
  else none) from rfl)
 clear h hm hn2
 go_enter Tryz.func27, Tryz.ntmps27
 go_upto_region 3 with fail
 have ta := hZ ((Turned.refl (fun _ => False) w).alloc (.cells #[.int .u8 0, .int .i64 0, .int .i64 0, .int .u8 0, .int .i64 0, .string ⟨#[]⟩, .int .i64 0, .int .i64 0, .int .i64 0, .int .i64 0, .int .i64 0, .int .i64 0, .slice none 0 0, .slice none 0 0, .slice none 0 0] 31))
 have xr := hZ (Blk.new w 31 #[.int .u8 0, .int .i64 0, .int .i64 0, .int .u8 0, .int .i64 0, .string ⟨#[]⟩, .int .i64 0, .int .i64 0, .int .i64 0, .int .i64 0, .int .i64 0, .int .i64 0, .slice none 0 0, .slice none 0 0, .slice none 0 0])
 obtain ⟨wa, hwa⟩ : ∃ wa, wa = w.alloc (.cells #[.int .u8 0, .int .i64 0, .int .i64 0, .int .u8 0, .int .i64 0, .string ⟨#[]⟩, .int .i64 0, .int .i64 0, .int .i64 0, .int .i64 0, .int .i64 0, .int .i64 0, .slice none 0 0, .slice none 0 0, .slice none 0 0] 31) := ⟨_, rfl⟩
 have hza : wa.heap.size = w.heap.size + 1 := by rw [hwa]; simp
 rw [← hwa] at ta xr ⊢
 clear hwa
 have ha0 : wa.cell? ⟨b, off, none⟩ = some (.string ⟨wd.toArray⟩) := cell_turned ta.out hc0 (fun e => e)
 have hsa := hZ (h'.out.fresh ta.out)
 clear hc0 h'
 obtain ⟨br, hbr⟩ : ∃ br, w.heap.size = br := ⟨_, rfl⟩
 rw [hbr] at xr hza hb ⊢
 have hzq := hZ hza
 clear hza
 have hbrw := hZ hbr
 clear hbr
 go_cut [4] from 3 to 4 (fun u4 wc => ∃ s0 : Sl, u4 = .slice s0.A s0.n s0.c ∧ wc = wa ∧ SlT wa s0 rs ∧ (∀ b' o, s0.A = some ⟨b', o, none⟩ → b' = b))
 case first =>
  clear ha0
  go_wp2_with fail
  ·have hc1 : c = 1 := by assumption
   subst hc1
   go_meet
   have := hsa.out.dropAll 1 (by have := hn2'.out; omega) rfl
   exact ⟨⟨some ⟨b, off, none⟩, n - 1, 0⟩, rfl, rfl, this, (fun b' o e => by injection e with e; injection e with e _; exact e.symm)⟩
  ·go_meet
   have := hsa.out.dropK 1 (by have := hn2'.out; omega)
   exact ⟨⟨some ⟨b, off + 1, none⟩, n - 1, c - 1⟩, rfl, rfl, this, (fun b' o e => by injection e with e; injection e with e _; exact e.symm)⟩
 case rest =>
  obtain ⟨⟨sA, sn, sc⟩, rfl, rfl, R0z, hAb⟩ := hcut
  have R0y := hZ R0z
  clear R0z
  have hAc := hZ hAb
  clear hAb
  have hmr := hZ (show ∀ y ∈ rs, lenOk y from fun y hy => hm'.out y (by simp [hy]))
  have hrN := hZ (show rs.length ≤ 1000000 by omega)
  clear hm' hsa hn2' hN hle hmx hn1 hn0
  have tb := (Turned.refl (fun _ => False) wc).alloc (.cells #[.int .u8 0, .int .i64 0, .int .i64 0, .int .u8 0, .int .i64 0, .string ⟨#[]⟩, .int .i64 0, .int .i64 0, .int .i64 0, .int .i64 0, .int .i64 0, .int .i64 0, .slice none 0 0, .slice none 0 0, .slice none 0 0] 31)
  have XX := hZ (Blk.new wc 31 #[.int .u8 0, .int .i64 0, .int .i64 0, .int .u8 0, .int .i64 0, .string ⟨#[]⟩, .int .i64 0, .int .i64 0, .int .i64 0, .int .i64 0, .int .i64 0, .int .i64 0, .slice none 0 0, .slice none 0 0, .slice none 0 0])
  have XR := hZ (xr.out.turned tb (fun e => e))
  have TT := hZ (ta.out.and_ tb)
  have R0 := hZ (R0y.out.fresh tb)
  have hc0 : (wc.alloc (.cells #[.int .u8 0, .int .i64 0, .int .i64 0, .int .u8 0, .int .i64 0, .string ⟨#[]⟩, .int .i64 0, .int .i64 0, .int .i64 0, .int .i64 0, .int .i64 0, .int .i64 0, .slice none 0 0, .slice none 0 0, .slice none 0 0] 31)).cell? ⟨b, off, none⟩ = some (.string ⟨wd.toArray⟩) := cell_turned tb ha0 (fun e => e)
  have hz2 := hZ (show (wc.alloc (.cells #[.int .u8 0, .int .i64 0, .int .i64 0, .int .u8 0, .int .i64 0, .string ⟨#[]⟩, .int .i64 0, .int .i64 0, .int .i64 0, .int .i64 0, .int .i64 0, .int .i64 0, .slice none 0 0, .slice none 0 0, .slice none 0 0] 31)).heap.size = br + 2 from by rw [World.size_alloc, hzq.out])
  clear tb xr ta ha0 R0y
  go_upto_block 0 with fail
  obtain ⟨W2, hW2⟩ : ∃ W2, W2 = wc.alloc (.cells #[.int .u8 0, .int .i64 0, .int .i64 0, .int .u8 0, .int .i64 0, .string ⟨#[]⟩, .int .i64 0, .int .i64 0, .int .i64 0, .int .i64 0, .int .i64 0, .int .i64 0, .slice none 0 0, .slice none 0 0, .slice none 0 0] 31) := ⟨_, rfl⟩
  rw [← hW2] at XX XR TT R0 hc0 hz2 ⊢
  clear hW2
  obtain ⟨bx, hbx⟩ : ∃ bx, wc.heap.size = bx := ⟨_, rfl⟩
  rw [hbx] at XX ⊢
  have hbb : br < bx := by have := hzq.out; omega
  have hw0 : w.heap.size ≤ br := by have := hbrw.out; omega
  have hbw : b < w.heap.size := by have := hbrw.out; omega
  clear hbx hzq hbrw
  have h_flush : ¬ wd = [102, 108, 117, 115, 104] := by rw [hx.out]; decide
  have n_flush := h_flush
  clear h_flush
  have q_flush : (wd == [102, 108, 117, 115, 104]) = false := beq_eq_false_iff_ne.2 n_flush
  have h_mark : ¬ wd = [109, 97, 114, 107] := by rw [hx.out]; decide
  have n_mark := h_mark
  clear h_mark
  have q_mark : (wd == [109, 97, 114, 107]) = false := beq_eq_false_iff_ne.2 n_mark
  have h_open : ¬ wd = [111, 112, 101, 110] := by rw [hx.out]; decide
  have n_open := h_open
  clear h_open
  have q_open : (wd == [111, 112, 101, 110]) = false := beq_eq_false_iff_ne.2 n_open
  have h_crash := hx.out
  have q_crash : (wd == [99, 114, 97, 115, 104]) = true := by rw [h_crash]; rfl
  have hs := hst.out
  rw [if_neg n_flush] at hs
  rw [if_neg n_mark] at hs
  rw [if_neg n_open] at hs
  rw [if_pos h_crash] at hs
  have hs := hZ hs
  clear hst h_crash
  obtain ⟨z0, z1, z2, z3, z4, z5, z6, z7, z8, z9, z10, z11, z12, z13, z14⟩ := XX.out.cells15
  have zf := XX.out.frozen
  have hst0 := hZ (show RcRel w br bx rs sA sn sc (.int .i64 0) (W2.setCell ⟨bx, 0, none⟩ (.int .u8 5)) from ⟨0, [], Sl.nil, Nat.zero_le _, rfl, RcW.start XX.out XR.out TT.out R0.out hmr.out hrN.out (fun b2 o e => by have := hAc.out b2 o e; omega) hw0 hbb, by rw [List.drop_zero]; cases fatesW rs <;> rfl⟩)
  clear XX XR TT R0 hmr hrN
  go_wp2_with fail
  clear z0 z1 z2 z3 z4 z5 z6 z7 z8 z9 z10 z11 z12 z13 z14 zf
  go_loopw [6] (fun i wr => RcRel w br bx rs sA sn sc i wr) (fun i _ => rs.length - (intOf i).toNat)
  case atStart => exact hst0.out
  case round =>
   obtain ⟨k, l, ⟨FA, Fn, Fc⟩, hk, rfl, R6z, hez⟩ := hrel
   have R6 := hZ R6z
   have he := hZ hez
   clear R6z hez hst0
   have hl7 := hZ R6.out.sl.len
   by_cases hp : k < rs.length
   ·have hpi : (k : Int) < (sn : Int) := by have h5 := hl7.out; simp only at h5; omega
    have hpn : k < sn := by have h5 := hl7.out; simp only at h5; omega
    obtain ⟨y, t, hyt⟩ : ∃ y t, rs.drop k = y :: t := ⟨_, _, List.drop_eq_getElem_cons hp⟩
    have hy := R6.out.sl.cells (show 0 < sn by omega)
    obtain ⟨b7, off7, hA7, hc7⟩ := hy
    simp only at hA7
    subst hA7
    have hgd : rs.getD k [] = y := by
     have := congrArg (fun l => l.getD 0 []) hyt
     simp only [List.getD_cons_zero] at this
     rw [← this]
     simp [List.getD_eq_getElem?_getD, List.getElem?_drop]
    have hy0 : wr.cell? ⟨b7, off7 + k, none⟩ = some (Value.string ⟨y.toArray⟩) := by have h6 := hc7 k hpn; rw [hgd] at h6; exact h6
    clear hc7 hgd
    have hym : y ∈ rs := by
     have h5 : y ∈ rs.drop k := by rw [hyt]; simp
     exact List.mem_of_mem_drop h5
    have hyl : y.length ≤ 9223372036854775807 := by have := R6.out.mem y hym; unfold lenOk at this; omega
    have hnum2 := hZ (fun W => rnumber_any ⟨y.toArray⟩ W (by show y.toArray.size ≤ _; rw [List.size_toArray]; exact hyl))
    have hnum : Hid (∀ W, Calls Tryz.prog 67 #[.string ⟨y.toArray⟩] W (RNumPost (numL y) W)) := by
     have e : (⟨y.toArray⟩ : ByteArray).data.toList = y := by simp
     rw [e] at hnum2
     exact hnum2
    clear hnum2
    have hv64 := numL_64 y
    have hdr : rs.drop (k + 1) = t := by
     have h5 : (rs.drop k).drop 1 = t := by rw [hyt]; rfl
     rw [List.drop_drop] at h5
     exact h5
    have hyt := hZ (show fatesW rs = (match fatesW (y :: t) with
       | none => none
       | some r => some (l ++ r)) from by rw [← hyt]; exact he.out)
    have hdq := hZ hdr
    clear hdr he
    have hfs := hZ (fates_step hyt.out)
    clear hyt
    obtain ⟨x0, x14⟩ : wr.cell? ⟨bx, 0, none⟩ = some (.int .u8 5) ∧ wr.cell? ⟨bx, 14, none⟩ = some (.slice FA Fn Fc) := ⟨R6.out.xx.cell 0, R6.out.xx.cell 14⟩
    have xf := R6.out.xx.frozen
    have hmk : (k : Int) + 1 ≤ 9223372036854775807 := by have := R6.out.few; omega
    go_wp2_with fail
    refine (hnum.out _).mono ?_
    rintro e wq ⟨rfl, rfl⟩
    clear hnum
    generalize (numL y).getD 0 = nv at *
    generalize hns : (numL y).isSome = ns at *
    clear hns
    cases ns with
    | false =>
     have hbad : stepW (wd :: rs) = none := by
      rw [hs.out]
      rcases hfs.out with ⟨h1, _⟩ | ⟨_, h1⟩
      ·cases h1
      ·unfold crashC
       rw [h1]
     have hbad := hZ hbad
     clear x0 x14 xf
     obtain ⟨z0, z1, z2, z3, z4, z5, z6, z7, z8, z9, z10, z11, z12, z13, z14⟩ := R6.out.xx.cells15
     have zf := R6.out.xx.frozen
     obtain ⟨y0, y1, y2, y3, y4, y5, y6, y7, y8, y9, y10, y11, y12, y13, y14⟩ := R6.out.res.cells15
     have yf := R6.out.res.frozen
     go_wp2_with fail
     obtain ⟨wz, hwz, XZ, tZ⟩ := fin15 (.int .u8 5) (.int .i64 0) (.int .i64 0) (.int .u8 0) (.int .i64 0) (.string ⟨#[]⟩) (.int .i64 0) (.int .i64 0) (.int .i64 0) (.int .i64 0) (.int .i64 0) (.int .i64 0) (.slice none 0 0) (.slice none 0 0) (.slice FA Fn Fc) R6.out.resH.out
     rw [hwz]
     clear hwz
     obtain ⟨e0, e1, e2, e3, e4, e5, e6, e7, e8, e9, e10, e11, e12, e13, e14⟩ := XZ.cells15
     refine bodyPost_ret (v := .tuple #[.agg #[.int .u8 5, .int .i64 0, .int .i64 0, .int .u8 0, .int .i64 0, .string ⟨#[]⟩, .int .i64 0, .int .i64 0, .int .i64 0, .int .i64 0, .int .i64 0, .int .i64 0, .slice none 0 0, .slice none 0 0, .slice FA Fn Fc], .bool false]) (by simp [results, Tryz.results27, go_sem, e0, e1, e2, e3, e4, e5, e6, e7, e8, e9, e10, e11, e12, e13, e14]) rfl ?_
     exact ⟨{ StepV.zero with kind := 5, fates := l }, AskS.nil, ⟨FA, Fn, Fc⟩, false, rfl, ⟨AskOwn.nil _ _ _ rfl rfl, R6.out.own.turned tZ (fun g e e2 => R6.out.own.blk R6.out.res (by decide) e e2), R6.out.fB⟩, ⟨(show isByte (5 : Int) by unfold isByte; decide), I64_zero, I64_zero, AskV.Ok.zero, R6.out.ok⟩, hbad.out, R6.out.tH.out.trans tZ (fun _ e => e) (fun i e => .inr (by subst e; omega))⟩
    | true =>
     have hgd : fatesW rs = (match fatesW t with
       | none => none
       | some r => some ((l ++ [nv]) ++ r)) := by
      rcases hfs.out with ⟨_, h1⟩ | ⟨h1, _⟩
      ·exact h1
      ·cases h1
     have hgd := hZ hgd
     have hlN := hZ (show l.length = Fn from by
      have h5 := R6.out.own.len
      rw [fateC_length] at h5
      simp only at h5
      omega)
     have hNN : Fn + 1 ≤ 1000000 := by
      have h5 := R6.out.few
      have h6 := hlN.out
      omega
     go_wp2_with (at_builtin; refine wpList_appE fateT rfl (.tmp 67) (.tmp 70) rfl (show OwnE _ 53 1 FA Fn Fc (fateC l) from R6.out.own.fresh ((Turned.refl (fun _ => False) wr).alloc (.cells #[.int .i64 nv] 53))) ⟨wr.heap.size, 0, none⟩ 1 1 [.int .i64 nv] rfl (news_new1 wr 53 _) (by simp [Value.oneCell']) (by omega) (by unfold maxLen; omega) (by omega) rfl rfl ?_; intro A9 c9 W9 ho9 hor9; have D6 := hZ (R6.out.fresh ((Turned.refl (fun _ => False) wr).alloc (.cells #[.int .i64 nv] 53))); have hXX := D6.out.xx.turned hor9.turned (fun e => D6.out.own.blk D6.out.xx (by decide) e rfl); have y9 : _ = some (Value.slice FA Fn Fc) := hXX.cell 14; have yf := hXX.frozen 14)
     have R9 := hZ (D6.out.grow hor9.turned (fun i e => e) (by rw [fateC_append]; exact ho9) (fun i e => (hor9.at_ (Nat.le_trans R6.out.t.size (by simp))).elim (fun h => R6.out.fB i (by rw [← h.1]; exact e)) (fun ⟨g2, h1, h2⟩ => by rw [h1] at e; injection e with e; injection e with e; omega)) hv64)
     go_roundw
     case rel => exact ⟨k + 1, l ++ [nv], ⟨A9, Fn + 1, c9⟩, by omega, by simp, R9.out, by rw [hdq.out]; exact hgd.out⟩
     case measure => simp [intOf] <;> omega
   ·have hpi : ¬ (k : Int) < (sn : Int) := by have h5 := hl7.out; simp only at h5; omega
    have hkk : k = rs.length := by omega
    have hgd : stepW (wd :: rs) = some ({ StepV.zero with kind := 5, fates := l } : StepV) := by
     have h1 := he.out
     rw [hkk, List.drop_length] at h1
     rw [hs.out]
     unfold crashC
     rw [h1]
     simp [fatesW]
    have hgq := hZ hgd
    clear hgd
    obtain ⟨z0, z1, z2, z3, z4, z5, z6, z7, z8, z9, z10, z11, z12, z13, z14⟩ := R6.out.xx.cells15
    have zf := R6.out.xx.frozen
    obtain ⟨y0, y1, y2, y3, y4, y5, y6, y7, y8, y9, y10, y11, y12, y13, y14⟩ := R6.out.res.cells15
    have yf := R6.out.res.frozen
    go_wp2_with fail
    obtain ⟨wz, hwz, XZ, tZ⟩ := fin15 (.int .u8 5) (.int .i64 0) (.int .i64 0) (.int .u8 0) (.int .i64 0) (.string ⟨#[]⟩) (.int .i64 0) (.int .i64 0) (.int .i64 0) (.int .i64 0) (.int .i64 0) (.int .i64 0) (.slice none 0 0) (.slice none 0 0) (.slice FA Fn Fc) R6.out.resH.out
    rw [hwz]
    clear hwz
    obtain ⟨e0, e1, e2, e3, e4, e5, e6, e7, e8, e9, e10, e11, e12, e13, e14⟩ := XZ.cells15
    refine bodyPost_ret (v := .tuple #[.agg #[.int .u8 5, .int .i64 0, .int .i64 0, .int .u8 0, .int .i64 0, .string ⟨#[]⟩, .int .i64 0, .int .i64 0, .int .i64 0, .int .i64 0, .int .i64 0, .int .i64 0, .slice none 0 0, .slice none 0 0, .slice FA Fn Fc], .bool true]) (by simp [results, Tryz.results27, go_sem, e0, e1, e2, e3, e4, e5, e6, e7, e8, e9, e10, e11, e12, e13, e14]) rfl ?_
    exact ⟨{ StepV.zero with kind := 5, fates := l }, AskS.nil, ⟨FA, Fn, Fc⟩, true, rfl, ⟨AskOwn.nil _ _ _ rfl rfl, R6.out.own.turned tZ (fun g e e2 => R6.out.own.blk R6.out.res (by decide) e e2), R6.out.fB⟩, ⟨(show isByte (5 : Int) by unfold isByte; decide), I64_zero, I64_zero, AskV.Ok.zero, R6.out.ok⟩, hgq.out, R6.out.tH.out.trans tZ (fun _ e => e) (fun i e => .inr (by subst e; omega))⟩
end Go.Proofs.YtglojnmcbochaaaGreatDoor

