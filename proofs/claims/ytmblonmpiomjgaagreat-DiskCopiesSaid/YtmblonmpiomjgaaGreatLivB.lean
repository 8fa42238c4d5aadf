/-
  One step of a disk's life, by the program's disk and by the document's: the answers are the same.
-/
import Derived.Test.YtmblonmpiomjgaaGreatLivA
namespace Go.Proofs.YtmblonmpiomjgaaGreat
open Go.RowKit Go.Maps

/-- Both disks are A. -/
structure Both (w : World) (base d s o r : Nat) (lv : Value) (m : Nat) (X : Nat → RS) (A : DA) : Prop where
  dsk : IsDisk w d s o A
  ref : IsRef w base r lv A m X
/-- What a step of both may turn. -/
def BothW (d s o r : Nat) (lv : Value) (k : Nat) : Prop := dskW d s o k ∨ k = r ∨ lv.ownBlock = some k
def StPost2 (base d s o r : Nat) (lv : Value) (m : Nat) (X : Nat → RS) (A' : DA) (w : World) (e : Ending) (w' : World) : Prop :=
  e = .returned (.bool true) ∧ (∃ lv' m' X', Both w' base d s o r lv' m' X' A' ∧ Near w lv m X lv' m' X') ∧ Turned (BothW d s o r lv) w w'

def doNext (A : DA) (x : DoV) : DA :=
  if x.op % 8 ≤ 2 then A.wNext x.sec (doBytes x).length (doBytes x)
  else if x.op % 8 = 3 then A.sNext
  else if x.op % 8 = 4 then A.arm x.num
  else if x.op % 8 ≤ 6 then A
  else A.wake x.fs

theorem bothW_dsk {W : World} {a b : World} {d s o r : Nat} {lv : Value} (h : Turned (BothW d s o r lv) W a) (ht : Turned (dskW d s o) a b) : Turned (BothW d s o r lv) W b := h.trans ht (fun _ e => e) (fun _ e => .inl (.inl e))
theorem bothW_ref {W : World} {a b : World} {base d s o r : Nat} {lv : Value} (h : Turned (BothW d s o r lv) W a) (ht : Turned (RefV base a r lv) a b) : Turned (BothW d s o r lv) W b := h.trans ht (fun _ e => e) (fun _ e => .inl (.inr e.1))
theorem bothW_new {W : World} {a b : World} {d s o r : Nat} {lv : Value} (h : Turned (BothW d s o r lv) W a) (ht : Turned (fun _ => False) a b) : Turned (BothW d s o r lv) W b := h.trans ht (fun _ e => e) (fun _ e => e.elim)
theorem Near.from_ {w w1 : World} {lv lv' : Value} {m m' : Nat} {X X' : Nat → RS} (h : Near w1 lv m X lv' m' X') (hs : w.heap.size ≤ w1.heap.size) : Near w lv m X lv' m' X' :=
  ⟨h.row.imp id (fun e k hk => Nat.le_trans hs (e k hk)), fun b hb => (h.byt b hb).imp id (Nat.le_trans hs)⟩

theorem do_cells {w : World} {g t : Nat} {v0 v1 v2 v3 v4 : Value} (h : Blk w g t #[v0, v1, v2, v3, v4]) : w.cell? ⟨g, 0, none⟩ = some v0 ∧ w.cell? ⟨g, 1, none⟩ = some v1 ∧ w.cell? ⟨g, 2, none⟩ = some v2 ∧ w.cell? ⟨g, 3, none⟩ = some v3 ∧ w.cell? ⟨g, 4, none⟩ = some v4 :=
  ⟨h.cell 0, h.cell 1, h.cell 2, h.cell 3, h.cell 4⟩
theorem RowI.dskTurned {w w' : World} {g n cap d s o : Nat} {zs : List Int} {A : DA} (h : RowI w 56 g n cap zs) (hd : IsDisk w d s o A) (ht : Turned (dskW d s o) w w') : RowI w' 56 g n cap zs := by
  obtain ⟨cs, hb, r⟩ := h.row
  exact ⟨h.len, h.le, h.max, cs, hb.dskTurned hd ht (by decide), r⟩
theorem RowI.refTurned {w w' : World} {g n cap base r : Nat} {lv : Value} {zs : List Int} (h : RowI w 56 g n cap zs) (ht : Turned (RefV base w r lv) w w') : RowI w' 56 g n cap zs := by
  obtain ⟨cs, hb, rr⟩ := h.row
  exact ⟨h.len, h.le, h.max, cs, hb.turned ht (fun e => e.2.ne hb (by decide) (by decide)), rr⟩
theorem FatesR.keep {w w' : World} {W : Nat → Prop} {B n : Nat} {F : Option Addr} {fs : List Int} (h : FatesR w B F n fs) (ht : Turned W w w') (hW : ∀ k, W k → k < B → False) : FatesR w' B F n fs :=
  ⟨h.len, h.max, h.wf, fun hn => by
    obtain ⟨b, off, e, hlt, hc⟩ := h.cell hn
    exact ⟨b, off, e, hlt, fun j hj => cell_turned ht (hc j hj) (fun hk => hW b hk hlt)⟩⟩
theorem RowB.drew' {w : World} {U g n cap : Nat} {zs : List Int} (h : RowB w U g n cap zs) : RowB w.drew U g n cap zs := ⟨h.len, h.le, h.max, h.row⟩
theorem RowB.drewN' {w : World} {U g n cap : Nat} {zs : List Int} (h : RowB w U g n cap zs) (k : Nat) : RowB (w.drewN k) U g n cap zs := ⟨h.len, h.le, h.max, h.row⟩
theorem lent_ints {w w1 : World} {g d n B : Nat} {F : Option Addr} {fs : List Int} (h : RowI w 56 g (n + 12) (n + 12) (fs ++ marksI 1 12)) (hF : FatesR w1 B F n fs) (hne : g ≠ d) : IntsR w d (some ⟨g, 0, none⟩) n fs :=
  ⟨hF.len, hF.max, hF.wf, fun _ => ⟨g, 0, rfl, hne, fun j hj => by
    rw [Nat.zero_add, h.cell (by omega), getD_app_l _ _ _ _ (by rw [hF.len]; exact hj)]⟩⟩

-- PRINTED BY wip/gen_liv.py
set_option maxRecDepth 100000 in
set_option maxHeartbeats 1000000 in
theorem step_sync {w : World} {base d s o r m : Nat} {lv : Value} {X : Nat → RS} {A : DA} (h : Both w base d s o r lv m X A) (x : DoV) (h0 : -9223372036854775808 ≤ x.op ∧ x.op ≤ 9223372036854775807) (hp : x.op % 8 = 3) :
    Calls Tryz.prog 8 #[.pointer (some ⟨d, 0, none⟩), .pointer (some ⟨r, 0, none⟩), .agg #[.int .i64 x.op, .int .i64 x.sec, .int .i64 x.num, .int .u8 x.byt, .slice x.F x.fn x.fc]] w (StPost2 base d s o r lv m X A.sNext w) := by
  have h' := Lib.hid h
  clear h
  obtain ⟨op, sec, num, byt, F, fn, fc, fs⟩ := x
  have hp' := Lib.hid hp
  clear hp
  go_enter Tryz.func8, Tryz.ntmps8
  go_wp2_with fail
  have hx := Blk.new w 31 #[.int .i64 op, .int .i64 sec, .int .i64 num, .int .u8 byt, .slice F fn fc]
  have hta := (Turned.refl (fun _ => False) w).alloc (.cells #[.int .i64 op, .int .i64 sec, .int .i64 num, .int .u8 byt, .slice F fn fc] 31)
  have hD1 := h'.out.dsk.fresh hta
  have hR1 := h'.out.ref.fresh hta
  have hT1 := (Turned.refl (BothW d s o r lv) w).alloc (.cells #[.int .i64 op, .int .i64 sec, .int .i64 num, .int .u8 byt, .slice F fn fc] 31)
  refine (pick_to op 8 3 _ hp'.out (by omega) (by omega) h0.1 h0.2).mono ?_
  rintro e w1 ⟨rfl, rfl⟩
  have hsz : w.heap.size ≤ (w.alloc (.cells #[.int .i64 op, .int .i64 sec, .int .i64 num, .int .u8 byt, .slice F fn fc] 31)).heap.size := hta.size
  have hx1 : Blk (w.alloc (.cells #[.int .i64 op, .int .i64 sec, .int .i64 num, .int .u8 byt, .slice F fn fc] 31)) w.heap.size 31 #[.int .i64 op, .int .i64 sec, .int .i64 num, .int .u8 byt, .slice F fn fc] := hx
  clear hx hta
  generalize hw1 : w.alloc (.cells #[.int .i64 op, .int .i64 sec, .int .i64 num, .int .u8 byt, .slice F fn fc] 31) = w1 at *
  clear hw1
  obtain ⟨q0, q1, q2, q3, q4⟩ := do_cells hx1
  go_wp2_with fail
  refine (dsync_all hD1).mono ?_
  rintro e w2 ⟨rfl, hD2, ht2⟩
  have hR2 := hR1.dskTurned hD1 ht2
  go_wp2_with fail
  refine (rsync_all hR2).mono ?_
  rintro e w3 ⟨rfl, ⟨lv3, m3, X3, hR3, hN3⟩, ht3⟩
  have hD3 := hD2.refVTurned ht3
  go_wp2_with fail
  go_ret
  exact ⟨ret_bool (by simp), ⟨lv3, m3, X3, ⟨hD3, hR3⟩, hN3.from_ (Nat.le_trans hsz ht2.size)⟩, bothW_ref (bothW_dsk hT1 ht2) ht3⟩
set_option maxRecDepth 100000 in
set_option maxHeartbeats 1000000 in
theorem step_arm {w : World} {base d s o r m : Nat} {lv : Value} {X : Nat → RS} {A : DA} (h : Both w base d s o r lv m X A) (x : DoV) (h0 : -9223372036854775808 ≤ x.op ∧ x.op ≤ 9223372036854775807) (hn : -9223372036854775808 ≤ x.num ∧ x.num ≤ 9223372036854775807) (hp : x.op % 8 = 4) :
    Calls Tryz.prog 8 #[.pointer (some ⟨d, 0, none⟩), .pointer (some ⟨r, 0, none⟩), .agg #[.int .i64 x.op, .int .i64 x.sec, .int .i64 x.num, .int .u8 x.byt, .slice x.F x.fn x.fc]] w (StPost2 base d s o r lv m X (A.arm x.num) w) := by
  have h' := Lib.hid h
  clear h
  obtain ⟨op, sec, num, byt, F, fn, fc, fs⟩ := x
  have hp' := Lib.hid hp
  clear hp
  go_enter Tryz.func8, Tryz.ntmps8
  go_wp2_with fail
  have hx := Blk.new w 31 #[.int .i64 op, .int .i64 sec, .int .i64 num, .int .u8 byt, .slice F fn fc]
  have hta := (Turned.refl (fun _ => False) w).alloc (.cells #[.int .i64 op, .int .i64 sec, .int .i64 num, .int .u8 byt, .slice F fn fc] 31)
  have hD1 := h'.out.dsk.fresh hta
  have hR1 := h'.out.ref.fresh hta
  have hT1 := (Turned.refl (BothW d s o r lv) w).alloc (.cells #[.int .i64 op, .int .i64 sec, .int .i64 num, .int .u8 byt, .slice F fn fc] 31)
  refine (pick_to op 8 4 _ hp'.out (by omega) (by omega) h0.1 h0.2).mono ?_
  rintro e w1 ⟨rfl, rfl⟩
  have hsz : w.heap.size ≤ (w.alloc (.cells #[.int .i64 op, .int .i64 sec, .int .i64 num, .int .u8 byt, .slice F fn fc] 31)).heap.size := hta.size
  have hx1 : Blk (w.alloc (.cells #[.int .i64 op, .int .i64 sec, .int .i64 num, .int .u8 byt, .slice F fn fc] 31)) w.heap.size 31 #[.int .i64 op, .int .i64 sec, .int .i64 num, .int .u8 byt, .slice F fn fc] := hx
  clear hx hta
  generalize hw1 : w.alloc (.cells #[.int .i64 op, .int .i64 sec, .int .i64 num, .int .u8 byt, .slice F fn fc] 31) = w1 at *
  clear hw1
  obtain ⟨q0, q1, q2, q3, q4⟩ := do_cells hx1
  go_wp2_with fail
  refine (darm_all hD1 num hn.2).mono ?_
  rintro e w2 ⟨rfl, hD2, ht2⟩
  have hR2 := hR1.dskTurned hD1 ht2
  have hx2 := hx1.dskTurned hD1 ht2 (by decide)
  obtain ⟨q0, q1, q2, q3, q4⟩ := do_cells hx2
  go_wp2_with fail
  refine (rarm_all hR2 num hn.2).mono ?_
  rintro e w3 ⟨rfl, ⟨lv3, m3, X3, hR3, hN3⟩, ht3⟩
  have hD3 := hD2.refVTurned ht3
  go_wp2_with fail
  go_ret
  exact ⟨rfl, ⟨lv3, m3, X3, ⟨hD3, hR3⟩, hN3.from_ (Nat.le_trans hsz ht2.size)⟩, bothW_ref (bothW_dsk hT1 ht2) ht3⟩
set_option maxRecDepth 100000 in
set_option maxHeartbeats 1000000 in
theorem step_read {w : World} {base d s o r m : Nat} {lv : Value} {X : Nat → RS} {A : DA} (h : Both w base d s o r lv m X A) (x : DoV) (h0 : -9223372036854775808 ≤ x.op ∧ x.op ≤ 9223372036854775807) (hp : x.op % 8 = 5 ∨ x.op % 8 = 6) :
    Calls Tryz.prog 8 #[.pointer (some ⟨d, 0, none⟩), .pointer (some ⟨r, 0, none⟩), .agg #[.int .i64 x.op, .int .i64 x.sec, .int .i64 x.num, .int .u8 x.byt, .slice x.F x.fn x.fc]] w (StPost2 base d s o r lv m X A w) := by
  have h' := Lib.hid h
  clear h
  obtain ⟨op, sec, num, byt, F, fn, fc, fs⟩ := x
  rcases hp with hp | hp
  · have hp' := Lib.hid hp
    clear hp
    go_enter Tryz.func8, Tryz.ntmps8
    go_wp2_with fail
    have hx := Blk.new w 31 #[.int .i64 op, .int .i64 sec, .int .i64 num, .int .u8 byt, .slice F fn fc]
    have hta := (Turned.refl (fun _ => False) w).alloc (.cells #[.int .i64 op, .int .i64 sec, .int .i64 num, .int .u8 byt, .slice F fn fc] 31)
    have hD1 := h'.out.dsk.fresh hta
    have hR1 := h'.out.ref.fresh hta
    have hT1 := (Turned.refl (BothW d s o r lv) w).alloc (.cells #[.int .i64 op, .int .i64 sec, .int .i64 num, .int .u8 byt, .slice F fn fc] 31)
    refine (pick_to op 8 5 _ hp'.out (by omega) (by omega) h0.1 h0.2).mono ?_
    rintro e w1 ⟨rfl, rfl⟩
    have hsz : w.heap.size ≤ (w.alloc (.cells #[.int .i64 op, .int .i64 sec, .int .i64 num, .int .u8 byt, .slice F fn fc] 31)).heap.size := hta.size
    have hx1 : Blk (w.alloc (.cells #[.int .i64 op, .int .i64 sec, .int .i64 num, .int .u8 byt, .slice F fn fc] 31)) w.heap.size 31 #[.int .i64 op, .int .i64 sec, .int .i64 num, .int .u8 byt, .slice F fn fc] := hx
    clear hx hta
    generalize hw1 : w.alloc (.cells #[.int .i64 op, .int .i64 sec, .int .i64 num, .int .u8 byt, .slice F fn fc] 31) = w1 at *
    clear hw1
    obtain ⟨q0, q1, q2, q3, q4⟩ := do_cells hx1
    go_wp2_with fail
    refine (dread_all hD1 sec).mono ?_
    rintro e w2 ⟨v2, n2, c2, rfl, hb2, ht2, _, _⟩
    have hD2 := hD1.fresh ht2
    have hR2 := hR1.fresh ht2
    have hx2 := hx1.turned ht2 (fun e => e)
    obtain ⟨q0, q1, q2, q3, q4⟩ := do_cells hx2
    go_wp2_with fail
    refine (rread_all hR2 sec).mono ?_
    rintro e w3 ⟨v3, n3, c3, rfl, hb3, ht3, _, _⟩
    have hD3 := hD2.fresh ht3
    have hR3 := hR2.fresh ht3
    have hb23 := hb2.turned ht3 (fun _ _ _ e => e)
    generalize A.rCode sec = code
    go_wp2_with fail
    refine (same_yes _ _ _ _ _ _ _ _ _ hb23.toBytR hb3.toBytR rfl).mono ?_
    rintro e w4 ⟨rfl, n4, rfl⟩
    go_wp2_with fail
    go_ret
    exact ⟨rfl, ⟨lv, m, X, ⟨hD3.fresh ((Turned.refl (fun _ => False) w3).drewN n4), hR3.fresh ((Turned.refl (fun _ => False) w3).drewN n4)⟩, Near.same _ _ _ _⟩, (bothW_new (bothW_new hT1 ht2) ht3).drewN _⟩
  · have hp' := Lib.hid hp
    clear hp
    go_enter Tryz.func8, Tryz.ntmps8
    go_wp2_with fail
    have hx := Blk.new w 31 #[.int .i64 op, .int .i64 sec, .int .i64 num, .int .u8 byt, .slice F fn fc]
    have hta := (Turned.refl (fun _ => False) w).alloc (.cells #[.int .i64 op, .int .i64 sec, .int .i64 num, .int .u8 byt, .slice F fn fc] 31)
    have hD1 := h'.out.dsk.fresh hta
    have hR1 := h'.out.ref.fresh hta
    have hT1 := (Turned.refl (BothW d s o r lv) w).alloc (.cells #[.int .i64 op, .int .i64 sec, .int .i64 num, .int .u8 byt, .slice F fn fc] 31)
    refine (pick_to op 8 6 _ hp'.out (by omega) (by omega) h0.1 h0.2).mono ?_
    rintro e w1 ⟨rfl, rfl⟩
    have hsz : w.heap.size ≤ (w.alloc (.cells #[.int .i64 op, .int .i64 sec, .int .i64 num, .int .u8 byt, .slice F fn fc] 31)).heap.size := hta.size
    have hx1 : Blk (w.alloc (.cells #[.int .i64 op, .int .i64 sec, .int .i64 num, .int .u8 byt, .slice F fn fc] 31)) w.heap.size 31 #[.int .i64 op, .int .i64 sec, .int .i64 num, .int .u8 byt, .slice F fn fc] := hx
    clear hx hta
    generalize hw1 : w.alloc (.cells #[.int .i64 op, .int .i64 sec, .int .i64 num, .int .u8 byt, .slice F fn fc] 31) = w1 at *
    clear hw1
    obtain ⟨q0, q1, q2, q3, q4⟩ := do_cells hx1
    go_wp2_with fail
    refine (dread_all hD1 sec).mono ?_
    rintro e w2 ⟨v2, n2, c2, rfl, hb2, ht2, _, _⟩
    have hD2 := hD1.fresh ht2
    have hR2 := hR1.fresh ht2
    have hx2 := hx1.turned ht2 (fun e => e)
    obtain ⟨q0, q1, q2, q3, q4⟩ := do_cells hx2
    go_wp2_with fail
    refine (rread_all hR2 sec).mono ?_
    rintro e w3 ⟨v3, n3, c3, rfl, hb3, ht3, _, _⟩
    have hD3 := hD2.fresh ht3
    have hR3 := hR2.fresh ht3
    have hb23 := hb2.turned ht3 (fun _ _ _ e => e)
    generalize A.rCode sec = code
    go_wp2_with fail
    refine (same_yes _ _ _ _ _ _ _ _ _ hb23.toBytR hb3.toBytR rfl).mono ?_
    rintro e w4 ⟨rfl, n4, rfl⟩
    go_wp2_with fail
    go_ret
    exact ⟨rfl, ⟨lv, m, X, ⟨hD3.fresh ((Turned.refl (fun _ => False) w3).drewN n4), hR3.fresh ((Turned.refl (fun _ => False) w3).drewN n4)⟩, Near.same _ _ _ _⟩, (bothW_new (bothW_new hT1 ht2) ht3).drewN _⟩
set_option maxRecDepth 100000 in
set_option maxHeartbeats 1000000 in
theorem step_wake {w : World} {base d s o r m : Nat} {lv : Value} {X : Nat → RS} {A : DA} (h : Both w base d s o r lv m X A) (x : DoV) (h0 : -9223372036854775808 ≤ x.op ∧ x.op ≤ 9223372036854775807) (hF : FatesR w base x.F x.fn x.fs) (hnil : x.F = none → x.fn = 0 ∧ x.fc = 0) (hfn : x.fn ≤ 1000000) (hlo : ∀ k, dskW d s o k → base ≤ k) (hp : x.op % 8 = 7) :
    Calls Tryz.prog 8 #[.pointer (some ⟨d, 0, none⟩), .pointer (some ⟨r, 0, none⟩), .agg #[.int .i64 x.op, .int .i64 x.sec, .int .i64 x.num, .int .u8 x.byt, .slice x.F x.fn x.fc]] w (StPost2 base d s o r lv m X (A.wake x.fs) w) := by
  have h' := Lib.hid h
  clear h
  obtain ⟨op, sec, num, byt, F, fn, fc, fs⟩ := x
  have hp' := Lib.hid hp
  clear hp
  have hF' := Lib.hid hF
  clear hF
  go_enter Tryz.func8, Tryz.ntmps8
  go_wp2_with fail
  have hx := Blk.new w 31 #[.int .i64 op, .int .i64 sec, .int .i64 num, .int .u8 byt, .slice F fn fc]
  have hta := (Turned.refl (fun _ => False) w).alloc (.cells #[.int .i64 op, .int .i64 sec, .int .i64 num, .int .u8 byt, .slice F fn fc] 31)
  have hD1 := h'.out.dsk.fresh hta
  have hR1 := h'.out.ref.fresh hta
  have hT1 := (Turned.refl (BothW d s o r lv) w).alloc (.cells #[.int .i64 op, .int .i64 sec, .int .i64 num, .int .u8 byt, .slice F fn fc] 31)
  refine (pick_to op 8 7 _ hp'.out (by omega) (by omega) h0.1 h0.2).mono ?_
  rintro e w1 ⟨rfl, rfl⟩
  have hsz : w.heap.size ≤ (w.alloc (.cells #[.int .i64 op, .int .i64 sec, .int .i64 num, .int .u8 byt, .slice F fn fc] 31)).heap.size := hta.size
  have hx1 : Blk (w.alloc (.cells #[.int .i64 op, .int .i64 sec, .int .i64 num, .int .u8 byt, .slice F fn fc] 31)) w.heap.size 31 #[.int .i64 op, .int .i64 sec, .int .i64 num, .int .u8 byt, .slice F fn fc] := hx
  have hta' := hta
  clear hx hta
  generalize hw1 : w.alloc (.cells #[.int .i64 op, .int .i64 sec, .int .i64 num, .int .u8 byt, .slice F fn fc] 31) = w1 at *
  clear hw1
  obtain ⟨q0, q1, q2, q3, q4⟩ := do_cells hx1
  have hF1 := hF'.out.fresh hta'
  go_wp2_with fail
  refine (lent_fates F fn fc base fs _ hF1 hnil hfn).mono ?_
  rintro e w2 ⟨g, rfl, hr2, hg2, ht2⟩
  have hD2 := hD1.fresh ht2
  have hR2 := hR1.fresh ht2
  have hx2 := hx1.turned ht2 (fun e => e)
  have hF2 := hF1.fresh ht2
  obtain ⟨q0, q1, q2, q3, q4⟩ := do_cells hx2
  go_wp2_with fail
  have hI2 : IntsR w2 d (some ⟨g, 0, none⟩) fn fs := lent_ints hr2 hF1 (fun e => by have := hD1.lt (.inl rfl); omega)
  refine (wake_any d s o A _ fn (fn + 12) fs _ hD2 hI2).mono ?_
  rintro e w3 ⟨rfl, hD3, ht3⟩
  have hR3 := hR2.dskTurned hD2 ht3
  have hx3 := hx2.dskTurned hD2 ht3 (by decide)
  have hr3 := hr2.dskTurned hD2 ht3
  have hF3 := hF2.keep ht3 (fun k hk hb => absurd (hlo k hk) (by omega))
  obtain ⟨q0, q1, q2, q3, q4⟩ := do_cells hx3
  go_wp2_with fail
  refine (rwake_any hR3 F fn fc fs hF3).mono ?_
  rintro e w4 ⟨rfl, ⟨lv4, m4, X4, hR4, hN4⟩, ht4⟩
  have hD4 := hD3.refVTurned ht4
  have hr4 := hr3.refTurned ht4
  have hF4 := hF3.keep ht4 (fun k hk hb => absurd hk.2.1 (by omega))
  have hx4 := hx3.turned ht4 (fun e => e.2.ne hx3 (by decide) (by decide))
  obtain ⟨q0, q1, q2, q3, q4⟩ := do_cells hx4
  go_wp2_with fail
  refine (kept_fates F fn fc base g (fn + 12) fs _ hr4 hF4 hfn).mono ?_
  rintro e w5 ⟨rfl, ht5⟩
  go_wp2_with fail
  go_ret
  exact ⟨rfl, ⟨lv4, m4, X4, ⟨hD4.fresh ht5, hR4.fresh ht5⟩, hN4.from_ (Nat.le_trans hsz (Nat.le_trans ht2.size ht3.size))⟩, bothW_new (bothW_ref (bothW_dsk (bothW_new hT1 ht2) ht3) ht4) ht5⟩
set_option maxRecDepth 100000 in
set_option maxHeartbeats 1000000 in
theorem step_write {w : World} {base d s o r m : Nat} {lv : Value} {X : Nat → RS} {A : DA} (h : Both w base d s o r lv m X A) (x : DoV) (h0 : -9223372036854775808 ≤ x.op ∧ x.op ≤ 9223372036854775807) (hn : -9223372036854775808 ≤ x.num ∧ x.num ≤ 9223372036854775807) (hb : 0 ≤ x.byt ∧ x.byt ≤ 255) (hp : x.op % 8 = 0 ∨ x.op % 8 = 1 ∨ x.op % 8 = 2) :
    Calls Tryz.prog 8 #[.pointer (some ⟨d, 0, none⟩), .pointer (some ⟨r, 0, none⟩), .agg #[.int .i64 x.op, .int .i64 x.sec, .int .i64 x.num, .int .u8 x.byt, .slice x.F x.fn x.fc]] w (StPost2 base d s o r lv m X (A.wNext x.sec (doBytes x).length (doBytes x)) w) := by
  have h' := Lib.hid h
  clear h
  obtain ⟨op, sec, num, byt, F, fn, fc, fs⟩ := x
  have hzb := doBytes_byte ⟨op, sec, num, byt, F, fn, fc, fs⟩
  rcases hp with hp | hp | hp
  · have hp' := Lib.hid hp
    clear hp
    go_enter Tryz.func8, Tryz.ntmps8
    go_wp2_with fail
    have hx := Blk.new w 31 #[.int .i64 op, .int .i64 sec, .int .i64 num, .int .u8 byt, .slice F fn fc]
    have hta := (Turned.refl (fun _ => False) w).alloc (.cells #[.int .i64 op, .int .i64 sec, .int .i64 num, .int .u8 byt, .slice F fn fc] 31)
    have hD1 := h'.out.dsk.fresh hta
    have hR1 := h'.out.ref.fresh hta
    have hT1 := (Turned.refl (BothW d s o r lv) w).alloc (.cells #[.int .i64 op, .int .i64 sec, .int .i64 num, .int .u8 byt, .slice F fn fc] 31)
    refine (pick_to op 8 0 _ hp'.out (by omega) (by omega) h0.1 h0.2).mono ?_
    rintro e w1 ⟨rfl, rfl⟩
    have hsz : w.heap.size ≤ (w.alloc (.cells #[.int .i64 op, .int .i64 sec, .int .i64 num, .int .u8 byt, .slice F fn fc] 31)).heap.size := hta.size
    have hx1 : Blk (w.alloc (.cells #[.int .i64 op, .int .i64 sec, .int .i64 num, .int .u8 byt, .slice F fn fc] 31)) w.heap.size 31 #[.int .i64 op, .int .i64 sec, .int .i64 num, .int .u8 byt, .slice F fn fc] := hx
    clear hx hta
    generalize hw1 : w.alloc (.cells #[.int .i64 op, .int .i64 sec, .int .i64 num, .int .u8 byt, .slice F fn fc] 31) = w1 at *
    clear hw1
    obtain ⟨q0, q1, q2, q3, q4⟩ := do_cells hx1
    go_wp2_with fail
    refine (doBytes_any ⟨op, sec, num, byt, F, fn, fc, fs⟩ _ hn hb).mono ?_
    rintro e w2 ⟨g, n, rfl, hn2, hr2, hg2, ht2⟩
    generalize hzs : doBytes ⟨op, sec, num, byt, F, fn, fc, fs⟩ = zs at *
    have hlen := Lib.hid hr2.len
    clear hzs
    have hD2 := hD1.fresh ht2
    have hR2 := hR1.fresh ht2
    have hx2 := hx1.turned ht2 (fun e => e)
    have hT2 := bothW_new hT1 ht2
    go_wp2_with fail
    refine (lent_bytes _ n 512 zs _ (hr2.bytS 512) (by omega)).mono ?_
    rintro e w3 ⟨gi, rfl, hi3, hg3, ht3⟩
    have hD3 := hD2.fresh ht3
    have hR3 := hR2.fresh ht3
    have hx3 := hx2.turned ht3 (fun e => e)
    have hr3 := hr2.turned ht3 (fun e => e)
    have hT3 := bothW_new hT2 ht3
    have hapart : ∀ k, (BytesOf m X k ∨ k = r ∨ lv.ownBlock = some k ∨ dskW d s o k) → k < gi := fun k hk => by
      have h3 := ht2.size
      rcases hk with hk | rfl | hk | hk
      · have := hR2.byt_lt hk; omega
      · have := hR2.r_lt; omega
      · have := hR2.lv_lt hk; omega
      · have := hD2.lt hk; omega
    have hap := Lib.hid hapart
    have hgw : w.heap.size ≤ gi := Nat.le_trans hsz (Nat.le_trans ht2.size hg3)
    have hsz3 := Nat.le_trans hsz (Nat.le_trans ht2.size ht3.size)
    clear hapart hr2 hD2 hR2 hx2 ht2 ht3 hT1 hT2 hD1 hR1 hx1 q0 q1 q2 q3 q4 hg2 hsz
    obtain ⟨q0, q1, q2, q3, q4⟩ := do_cells hx3
    clear q0 q2 q3 q4
    have hcut := hi3.cut (k := n) (by omega)
    rw [show (zs ++ marksB 1 12).take n = zs by rw [← hlen.out, List.take_left]] at hcut
    go_wp2_with fail
    refine wp_region_segs (fun w' => w'.cell? ⟨w.heap.size, 1, none⟩ = some (.int .i64 sec)) (segT [0, 1, 2, 3, 5, 6, 7, 8] ++ segF [4, 9, 10, 11] ++ segT [12, 13] ++ segF [14, 15, 16]) mixed (by kernel_rfl) (fun _ _ _ _ _ h => h) ?_
    simp only [segT, segF, pickSegs, List.map_cons, List.map_nil, List.cons_append, List.nil_append, List.filterMap_cons, List.filterMap_nil, List.getElem?_cons_zero, List.getElem?_cons_succ, Option.map_some]
    iterate 8 (refine wpSegs_take (v := ?_) q1 rfl (fun w' hw => ?_) ?_; rotate_left; (go_simp; try with_reducible rfl); try simp only [Act.put, List.setIfInBounds_toArray, List.set_cons_zero, List.set_cons_succ])
    refine wpSegs_run rfl (fun K hK => ?_)
    go_simp
    refine (dwrite_all (w := w3.drew) (hD3.fresh (Turned.refl (fun _ => False) w3).drew) sec gi n (n + 12) zs hcut.drew' hzb).mono ?_
    rintro e w4 ⟨rfl, hD4, ht4'⟩
    have ht4 : Turned (dskW d s o) w3 w4 := ⟨ht4'.os, ht4'.tape, ht4'.output, ht4'.size, ht4'.block⟩
    have hx4 := hx3.dskTurned hD3 ht4 (by decide)
    have q4 : w4.cell? ⟨w.heap.size, 1, none⟩ = some (.int .i64 sec) := hx4.cell 1
    refine hK.out _ _ q4 ?_
    clear hK K
    have hR4 := hR3.dskTurned hD3 ht4
    have hr4 := hr3.dskTurned hD3 ht4
    have hi4 := hi3.dskTurned hD3 ht4
    refine wpSegs_run rfl (fun K hK => ?_)
    go_simp
    refine (rwrite_all hR4 sec g n 512 zs hr4 hzb).mono ?_
    rintro e w5 ⟨rfl, ⟨lv5, m5, X5, hR5, hN5⟩, ht5⟩
    have hx5 := hx4.turned ht5 (fun e => e.2.ne hx4 (by decide) (by decide))
    have q5 : w5.cell? ⟨w.heap.size, 1, none⟩ = some (.int .i64 sec) := hx5.cell 1
    refine hK.out _ _ q5 ?_
    clear hK K
    have hD5 := hD4.refVTurned ht5
    have hi5 := hi4.refTurned ht5
    have hr5 := hr4.refTurned ht5
    refine wpSegs_run rfl (fun K hK => ?_)
    go_simp
    refine hK.out _ _ q5 ?_
    clear hK K
    refine wpSegs_run rfl (fun K hK => ?_)
    go_simp
    refine hK.out _ _ q5 ?_
    clear hK K
    iterate 2 (refine wpSegs_take (v := ?_) q5 rfl (fun w' hw => ?_) ?_; rotate_left; (go_simp; try with_reducible rfl); try simp only [Act.put, List.setIfInBounds_toArray, List.set_cons_zero, List.set_cons_succ])
    refine wpSegs_run rfl (fun K hK => ?_)
    go_simp
    refine (kept_bytes _ n 512 gi (n + 12) zs _ hi5 hr5.bytR (by omega)).mono ?_
    rintro e w6 ⟨rfl, n6, rfl⟩
    refine hK.out _ _ q5 ?_
    clear hK K
    iterate 2 (refine wpSegs_run rfl (fun K hK => ?_); go_simp; refine hK.out _ _ q5 ?_; clear hK K)
    refine wpSegs_nil ?_
    go_wp2_with fail
    refine (over_bytes n gi (n + 12) _ _ (hi5.drewN' n6) (by omega)).mono ?_
    rintro e w7 ⟨rfl, _, ht7'⟩
    have ht7 : Turned (· = gi) w5 w7 := ⟨ht7'.os, ht7'.tape, ht7'.output, ht7'.size, ht7'.block⟩
    go_wp2_with fail
    go_ret
    have hgi5 : gi < w4.heap.size := hi4.lt
    have hR7 := hR5.apart ht7 (fun e => by have := hap.out r (.inr (.inl rfl)); omega) (fun k hk e => by
      rcases hN5.row with e1 | e1
      · rw [e1] at hk
        have := hap.out k (.inr (.inr (.inl hk))); omega
      · have := e1 k hk; omega) (fun k hk e => by
      rcases hN5.byt k hk with e1 | e1
      · have := hap.out k (.inl e1); omega
      · omega)
    have hD7 := hD5.turned ht7 (fun k hk e => by have := hap.out k (.inr (.inr (.inr hk))); omega)
    have hT7 := (bothW_ref (bothW_dsk hT3 ht4) ht5).trans (W := BothW d s o r lv) ht7 (fun _ e => e) (fun k e => .inr (by
      have e' : k = gi := e
      omega))
    refine ⟨rfl, ⟨lv5, m5, X5, ⟨?_, ?_⟩, hN5.from_ (Nat.le_trans hsz3 ht4.size)⟩, hT7⟩
    · rw [hlen.out]; exact hD7
    · rw [hlen.out]; exact hR7
  · have hp' := Lib.hid hp
    clear hp
    go_enter Tryz.func8, Tryz.ntmps8
    go_wp2_with fail
    have hx := Blk.new w 31 #[.int .i64 op, .int .i64 sec, .int .i64 num, .int .u8 byt, .slice F fn fc]
    have hta := (Turned.refl (fun _ => False) w).alloc (.cells #[.int .i64 op, .int .i64 sec, .int .i64 num, .int .u8 byt, .slice F fn fc] 31)
    have hD1 := h'.out.dsk.fresh hta
    have hR1 := h'.out.ref.fresh hta
    have hT1 := (Turned.refl (BothW d s o r lv) w).alloc (.cells #[.int .i64 op, .int .i64 sec, .int .i64 num, .int .u8 byt, .slice F fn fc] 31)
    refine (pick_to op 8 1 _ hp'.out (by omega) (by omega) h0.1 h0.2).mono ?_
    rintro e w1 ⟨rfl, rfl⟩
    have hsz : w.heap.size ≤ (w.alloc (.cells #[.int .i64 op, .int .i64 sec, .int .i64 num, .int .u8 byt, .slice F fn fc] 31)).heap.size := hta.size
    have hx1 : Blk (w.alloc (.cells #[.int .i64 op, .int .i64 sec, .int .i64 num, .int .u8 byt, .slice F fn fc] 31)) w.heap.size 31 #[.int .i64 op, .int .i64 sec, .int .i64 num, .int .u8 byt, .slice F fn fc] := hx
    clear hx hta
    generalize hw1 : w.alloc (.cells #[.int .i64 op, .int .i64 sec, .int .i64 num, .int .u8 byt, .slice F fn fc] 31) = w1 at *
    clear hw1
    obtain ⟨q0, q1, q2, q3, q4⟩ := do_cells hx1
    go_wp2_with fail
    refine (doBytes_any ⟨op, sec, num, byt, F, fn, fc, fs⟩ _ hn hb).mono ?_
    rintro e w2 ⟨g, n, rfl, hn2, hr2, hg2, ht2⟩
    generalize hzs : doBytes ⟨op, sec, num, byt, F, fn, fc, fs⟩ = zs at *
    have hlen := Lib.hid hr2.len
    clear hzs
    have hD2 := hD1.fresh ht2
    have hR2 := hR1.fresh ht2
    have hx2 := hx1.turned ht2 (fun e => e)
    have hT2 := bothW_new hT1 ht2
    go_wp2_with fail
    refine (lent_bytes _ n 512 zs _ (hr2.bytS 512) (by omega)).mono ?_
    rintro e w3 ⟨gi, rfl, hi3, hg3, ht3⟩
    have hD3 := hD2.fresh ht3
    have hR3 := hR2.fresh ht3
    have hx3 := hx2.turned ht3 (fun e => e)
    have hr3 := hr2.turned ht3 (fun e => e)
    have hT3 := bothW_new hT2 ht3
    have hapart : ∀ k, (BytesOf m X k ∨ k = r ∨ lv.ownBlock = some k ∨ dskW d s o k) → k < gi := fun k hk => by
      have h3 := ht2.size
      rcases hk with hk | rfl | hk | hk
      · have := hR2.byt_lt hk; omega
      · have := hR2.r_lt; omega
      · have := hR2.lv_lt hk; omega
      · have := hD2.lt hk; omega
    have hap := Lib.hid hapart
    have hgw : w.heap.size ≤ gi := Nat.le_trans hsz (Nat.le_trans ht2.size hg3)
    have hsz3 := Nat.le_trans hsz (Nat.le_trans ht2.size ht3.size)
    clear hapart hr2 hD2 hR2 hx2 ht2 ht3 hT1 hT2 hD1 hR1 hx1 q0 q1 q2 q3 q4 hg2 hsz
    obtain ⟨q0, q1, q2, q3, q4⟩ := do_cells hx3
    clear q0 q2 q3 q4
    have hcut := hi3.cut (k := n) (by omega)
    rw [show (zs ++ marksB 1 12).take n = zs by rw [← hlen.out, List.take_left]] at hcut
    go_wp2_with fail
    refine wp_region_segs (fun w' => w'.cell? ⟨w.heap.size, 1, none⟩ = some (.int .i64 sec)) (segT [0, 1, 2, 3, 5, 6, 7, 8] ++ segF [4, 9, 10, 11] ++ segT [12, 13] ++ segF [14, 15, 16]) mixed (by kernel_rfl) (fun _ _ _ _ _ h => h) ?_
    simp only [segT, segF, pickSegs, List.map_cons, List.map_nil, List.cons_append, List.nil_append, List.filterMap_cons, List.filterMap_nil, List.getElem?_cons_zero, List.getElem?_cons_succ, Option.map_some]
    iterate 8 (refine wpSegs_take (v := ?_) q1 rfl (fun w' hw => ?_) ?_; rotate_left; (go_simp; try with_reducible rfl); try simp only [Act.put, List.setIfInBounds_toArray, List.set_cons_zero, List.set_cons_succ])
    refine wpSegs_run rfl (fun K hK => ?_)
    go_simp
    refine (dwrite_all (w := w3.drew) (hD3.fresh (Turned.refl (fun _ => False) w3).drew) sec gi n (n + 12) zs hcut.drew' hzb).mono ?_
    rintro e w4 ⟨rfl, hD4, ht4'⟩
    have ht4 : Turned (dskW d s o) w3 w4 := ⟨ht4'.os, ht4'.tape, ht4'.output, ht4'.size, ht4'.block⟩
    have hx4 := hx3.dskTurned hD3 ht4 (by decide)
    have q4 : w4.cell? ⟨w.heap.size, 1, none⟩ = some (.int .i64 sec) := hx4.cell 1
    refine hK.out _ _ q4 ?_
    clear hK K
    have hR4 := hR3.dskTurned hD3 ht4
    have hr4 := hr3.dskTurned hD3 ht4
    have hi4 := hi3.dskTurned hD3 ht4
    refine wpSegs_run rfl (fun K hK => ?_)
    go_simp
    refine (rwrite_all hR4 sec g n 512 zs hr4 hzb).mono ?_
    rintro e w5 ⟨rfl, ⟨lv5, m5, X5, hR5, hN5⟩, ht5⟩
    have hx5 := hx4.turned ht5 (fun e => e.2.ne hx4 (by decide) (by decide))
    have q5 : w5.cell? ⟨w.heap.size, 1, none⟩ = some (.int .i64 sec) := hx5.cell 1
    refine hK.out _ _ q5 ?_
    clear hK K
    have hD5 := hD4.refVTurned ht5
    have hi5 := hi4.refTurned ht5
    have hr5 := hr4.refTurned ht5
    refine wpSegs_run rfl (fun K hK => ?_)
    go_simp
    refine hK.out _ _ q5 ?_
    clear hK K
    refine wpSegs_run rfl (fun K hK => ?_)
    go_simp
    refine hK.out _ _ q5 ?_
    clear hK K
    iterate 2 (refine wpSegs_take (v := ?_) q5 rfl (fun w' hw => ?_) ?_; rotate_left; (go_simp; try with_reducible rfl); try simp only [Act.put, List.setIfInBounds_toArray, List.set_cons_zero, List.set_cons_succ])
    refine wpSegs_run rfl (fun K hK => ?_)
    go_simp
    refine (kept_bytes _ n 512 gi (n + 12) zs _ hi5 hr5.bytR (by omega)).mono ?_
    rintro e w6 ⟨rfl, n6, rfl⟩
    refine hK.out _ _ q5 ?_
    clear hK K
    iterate 2 (refine wpSegs_run rfl (fun K hK => ?_); go_simp; refine hK.out _ _ q5 ?_; clear hK K)
    refine wpSegs_nil ?_
    go_wp2_with fail
    refine (over_bytes n gi (n + 12) _ _ (hi5.drewN' n6) (by omega)).mono ?_
    rintro e w7 ⟨rfl, _, ht7'⟩
    have ht7 : Turned (· = gi) w5 w7 := ⟨ht7'.os, ht7'.tape, ht7'.output, ht7'.size, ht7'.block⟩
    go_wp2_with fail
    go_ret
    have hgi5 : gi < w4.heap.size := hi4.lt
    have hR7 := hR5.apart ht7 (fun e => by have := hap.out r (.inr (.inl rfl)); omega) (fun k hk e => by
      rcases hN5.row with e1 | e1
      · rw [e1] at hk
        have := hap.out k (.inr (.inr (.inl hk))); omega
      · have := e1 k hk; omega) (fun k hk e => by
      rcases hN5.byt k hk with e1 | e1
      · have := hap.out k (.inl e1); omega
      · omega)
    have hD7 := hD5.turned ht7 (fun k hk e => by have := hap.out k (.inr (.inr (.inr hk))); omega)
    have hT7 := (bothW_ref (bothW_dsk hT3 ht4) ht5).trans (W := BothW d s o r lv) ht7 (fun _ e => e) (fun k e => .inr (by
      have e' : k = gi := e
      omega))
    refine ⟨rfl, ⟨lv5, m5, X5, ⟨?_, ?_⟩, hN5.from_ (Nat.le_trans hsz3 ht4.size)⟩, hT7⟩
    · rw [hlen.out]; exact hD7
    · rw [hlen.out]; exact hR7
  · have hp' := Lib.hid hp
    clear hp
    go_enter Tryz.func8, Tryz.ntmps8
    go_wp2_with fail
    have hx := Blk.new w 31 #[.int .i64 op, .int .i64 sec, .int .i64 num, .int .u8 byt, .slice F fn fc]
    have hta := (Turned.refl (fun _ => False) w).alloc (.cells #[.int .i64 op, .int .i64 sec, .int .i64 num, .int .u8 byt, .slice F fn fc] 31)
    have hD1 := h'.out.dsk.fresh hta
    have hR1 := h'.out.ref.fresh hta
    have hT1 := (Turned.refl (BothW d s o r lv) w).alloc (.cells #[.int .i64 op, .int .i64 sec, .int .i64 num, .int .u8 byt, .slice F fn fc] 31)
    refine (pick_to op 8 2 _ hp'.out (by omega) (by omega) h0.1 h0.2).mono ?_
    rintro e w1 ⟨rfl, rfl⟩
    have hsz : w.heap.size ≤ (w.alloc (.cells #[.int .i64 op, .int .i64 sec, .int .i64 num, .int .u8 byt, .slice F fn fc] 31)).heap.size := hta.size
    have hx1 : Blk (w.alloc (.cells #[.int .i64 op, .int .i64 sec, .int .i64 num, .int .u8 byt, .slice F fn fc] 31)) w.heap.size 31 #[.int .i64 op, .int .i64 sec, .int .i64 num, .int .u8 byt, .slice F fn fc] := hx
    clear hx hta
    generalize hw1 : w.alloc (.cells #[.int .i64 op, .int .i64 sec, .int .i64 num, .int .u8 byt, .slice F fn fc] 31) = w1 at *
    clear hw1
    obtain ⟨q0, q1, q2, q3, q4⟩ := do_cells hx1
    go_wp2_with fail
    refine (doBytes_any ⟨op, sec, num, byt, F, fn, fc, fs⟩ _ hn hb).mono ?_
    rintro e w2 ⟨g, n, rfl, hn2, hr2, hg2, ht2⟩
    generalize hzs : doBytes ⟨op, sec, num, byt, F, fn, fc, fs⟩ = zs at *
    have hlen := Lib.hid hr2.len
    clear hzs
    have hD2 := hD1.fresh ht2
    have hR2 := hR1.fresh ht2
    have hx2 := hx1.turned ht2 (fun e => e)
    have hT2 := bothW_new hT1 ht2
    go_wp2_with fail
    refine (lent_bytes _ n 512 zs _ (hr2.bytS 512) (by omega)).mono ?_
    rintro e w3 ⟨gi, rfl, hi3, hg3, ht3⟩
    have hD3 := hD2.fresh ht3
    have hR3 := hR2.fresh ht3
    have hx3 := hx2.turned ht3 (fun e => e)
    have hr3 := hr2.turned ht3 (fun e => e)
    have hT3 := bothW_new hT2 ht3
    have hapart : ∀ k, (BytesOf m X k ∨ k = r ∨ lv.ownBlock = some k ∨ dskW d s o k) → k < gi := fun k hk => by
      have h3 := ht2.size
      rcases hk with hk | rfl | hk | hk
      · have := hR2.byt_lt hk; omega
      · have := hR2.r_lt; omega
      · have := hR2.lv_lt hk; omega
      · have := hD2.lt hk; omega
    have hap := Lib.hid hapart
    have hgw : w.heap.size ≤ gi := Nat.le_trans hsz (Nat.le_trans ht2.size hg3)
    have hsz3 := Nat.le_trans hsz (Nat.le_trans ht2.size ht3.size)
    clear hapart hr2 hD2 hR2 hx2 ht2 ht3 hT1 hT2 hD1 hR1 hx1 q0 q1 q2 q3 q4 hg2 hsz
    obtain ⟨q0, q1, q2, q3, q4⟩ := do_cells hx3
    clear q0 q2 q3 q4
    have hcut := hi3.cut (k := n) (by omega)
    rw [show (zs ++ marksB 1 12).take n = zs by rw [← hlen.out, List.take_left]] at hcut
    go_wp2_with fail
    refine wp_region_segs (fun w' => w'.cell? ⟨w.heap.size, 1, none⟩ = some (.int .i64 sec)) (segT [0, 1, 2, 3, 5, 6, 7, 8] ++ segF [4, 9, 10, 11] ++ segT [12, 13] ++ segF [14, 15, 16]) mixed (by kernel_rfl) (fun _ _ _ _ _ h => h) ?_
    simp only [segT, segF, pickSegs, List.map_cons, List.map_nil, List.cons_append, List.nil_append, List.filterMap_cons, List.filterMap_nil, List.getElem?_cons_zero, List.getElem?_cons_succ, Option.map_some]
    iterate 8 (refine wpSegs_take (v := ?_) q1 rfl (fun w' hw => ?_) ?_; rotate_left; (go_simp; try with_reducible rfl); try simp only [Act.put, List.setIfInBounds_toArray, List.set_cons_zero, List.set_cons_succ])
    refine wpSegs_run rfl (fun K hK => ?_)
    go_simp
    refine (dwrite_all (w := w3.drew) (hD3.fresh (Turned.refl (fun _ => False) w3).drew) sec gi n (n + 12) zs hcut.drew' hzb).mono ?_
    rintro e w4 ⟨rfl, hD4, ht4'⟩
    have ht4 : Turned (dskW d s o) w3 w4 := ⟨ht4'.os, ht4'.tape, ht4'.output, ht4'.size, ht4'.block⟩
    have hx4 := hx3.dskTurned hD3 ht4 (by decide)
    have q4 : w4.cell? ⟨w.heap.size, 1, none⟩ = some (.int .i64 sec) := hx4.cell 1
    refine hK.out _ _ q4 ?_
    clear hK K
    have hR4 := hR3.dskTurned hD3 ht4
    have hr4 := hr3.dskTurned hD3 ht4
    have hi4 := hi3.dskTurned hD3 ht4
    refine wpSegs_run rfl (fun K hK => ?_)
    go_simp
    refine (rwrite_all hR4 sec g n 512 zs hr4 hzb).mono ?_
    rintro e w5 ⟨rfl, ⟨lv5, m5, X5, hR5, hN5⟩, ht5⟩
    have hx5 := hx4.turned ht5 (fun e => e.2.ne hx4 (by decide) (by decide))
    have q5 : w5.cell? ⟨w.heap.size, 1, none⟩ = some (.int .i64 sec) := hx5.cell 1
    refine hK.out _ _ q5 ?_
    clear hK K
    have hD5 := hD4.refVTurned ht5
    have hi5 := hi4.refTurned ht5
    have hr5 := hr4.refTurned ht5
    refine wpSegs_run rfl (fun K hK => ?_)
    go_simp
    refine hK.out _ _ q5 ?_
    clear hK K
    refine wpSegs_run rfl (fun K hK => ?_)
    go_simp
    refine hK.out _ _ q5 ?_
    clear hK K
    iterate 2 (refine wpSegs_take (v := ?_) q5 rfl (fun w' hw => ?_) ?_; rotate_left; (go_simp; try with_reducible rfl); try simp only [Act.put, List.setIfInBounds_toArray, List.set_cons_zero, List.set_cons_succ])
    refine wpSegs_run rfl (fun K hK => ?_)
    go_simp
    refine (kept_bytes _ n 512 gi (n + 12) zs _ hi5 hr5.bytR (by omega)).mono ?_
    rintro e w6 ⟨rfl, n6, rfl⟩
    refine hK.out _ _ q5 ?_
    clear hK K
    iterate 2 (refine wpSegs_run rfl (fun K hK => ?_); go_simp; refine hK.out _ _ q5 ?_; clear hK K)
    refine wpSegs_nil ?_
    go_wp2_with fail
    refine (over_bytes n gi (n + 12) _ _ (hi5.drewN' n6) (by omega)).mono ?_
    rintro e w7 ⟨rfl, _, ht7'⟩
    have ht7 : Turned (· = gi) w5 w7 := ⟨ht7'.os, ht7'.tape, ht7'.output, ht7'.size, ht7'.block⟩
    go_wp2_with fail
    go_ret
    have hgi5 : gi < w4.heap.size := hi4.lt
    have hR7 := hR5.apart ht7 (fun e => by have := hap.out r (.inr (.inl rfl)); omega) (fun k hk e => by
      rcases hN5.row with e1 | e1
      · rw [e1] at hk
        have := hap.out k (.inr (.inr (.inl hk))); omega
      · have := e1 k hk; omega) (fun k hk e => by
      rcases hN5.byt k hk with e1 | e1
      · have := hap.out k (.inl e1); omega
      · omega)
    have hD7 := hD5.turned ht7 (fun k hk e => by have := hap.out k (.inr (.inr (.inr hk))); omega)
    have hT7 := (bothW_ref (bothW_dsk hT3 ht4) ht5).trans (W := BothW d s o r lv) ht7 (fun _ e => e) (fun k e => .inr (by
      have e' : k = gi := e
      omega))
    refine ⟨rfl, ⟨lv5, m5, X5, ⟨?_, ?_⟩, hN5.from_ (Nat.le_trans hsz3 ht4.size)⟩, hT7⟩
    · rw [hlen.out]; exact hD7
    · rw [hlen.out]; exact hR7
end Go.Proofs.YtmblonmpiomjgaaGreat
