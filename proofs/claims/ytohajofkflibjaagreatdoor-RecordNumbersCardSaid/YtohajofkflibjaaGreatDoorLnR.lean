/-
  What the statements share: a record that is lent, with marks behind the end of each of its lists. Conditions: at most 1000000 of each.
-/
import Derived.Test.YtohajofkflibjaaGreatDoorLnP
import Derived.Test.YtohajofkflibjaaGreatDoorRecH
namespace Go.Proofs.YtohajofkflibjaaGreatDoor
open Go.RowKit Go.Maps
set_option linter.unusedVariables false
set_option linter.unusedSimpArgs false

/-- The slices of a record that is lent. -/
def lentS (S : RecS) (gk go gn gd gp : Nat) : RecS := ⟨⟨some ⟨gk, 0, none⟩, S.K.n, S.K.n + 12⟩, ⟨some ⟨go, 0, none⟩, S.O.n, S.O.n + 12⟩, ⟨some ⟨gn, 0, none⟩, S.N.n, S.N.n + 12⟩, ⟨some ⟨gd, 0, none⟩, S.D.n, S.D.n + 12⟩, ⟨some ⟨gp, 0, none⟩, S.P.n, S.P.n + 12⟩⟩
structure LentIs (w : World) (B : Nat) (R : Rec) (S : RecS) (gk go gn gd gp : Nat) : Prop where
  k : RowB w 5 gk (S.K.n + 12) (S.K.n + 12) (R.key ++ marksB 1 12)
  o : RowB w 5 go (S.O.n + 12) (S.O.n + 12) (R.old ++ marksB 1 12)
  n : RowB w 5 gn (S.N.n + 12) (S.N.n + 12) (R.new ++ marksB 1 12)
  d : RowE w 52 2 gd (S.D.n + 12) (S.D.n + 12) (pairC (R.dirty ++ marksP 1 12))
  p : RowE w 54 2 gp (S.P.n + 12) (S.P.n + 12) (pairC (R.opn ++ marksP 1 12))
  b0 : B ≤ gk
  b1 : gk < go
  b2 : go < gn
  b3 : gn < gd
  b4 : gd < gp
theorem LentIs.fresh {w w' : World} {B : Nat} {R : Rec} {S : RecS} {gk go gn gd gp : Nat} (h : LentIs w B R S gk go gn gd gp) (ht : Turned (fun _ => False) w w') : LentIs w' B R S gk go gn gd gp :=
  ⟨h.k.turned ht (fun e => e), h.o.turned ht (fun e => e), h.n.turned ht (fun e => e), h.d.fresh ht, h.p.fresh ht, h.b0, h.b1, h.b2, h.b3, h.b4⟩
theorem RowB.slB {w : World} {g n m : Nat} {zs ms : List Int} (h : RowB w 5 g m m (zs ++ ms)) (hl : zs.length = n) (hn : n ≤ m) (hm : m ≤ 1000100) : SlB w ⟨some ⟨g, 0, none⟩, n, m⟩ zs := by
  have hc := h.cut hn
  rw [List.take_left' hl] at hc
  exact ⟨hc.bytS m, hn, by unfold maxLen; show m ≤ _; omega, by show n ≤ _; omega⟩
theorem RowE.slP {w : World} {T g n m : Nat} {l ms : List (Int × Int)} (h : RowE w T 2 g m m (pairC (l ++ ms))) (hl : l.length = n) (hn : n ≤ m) (hm : m ≤ 1000100) : SlP w ⟨some ⟨g, 0, none⟩, n, m⟩ l := by
  have hc := h.cut hn
  rw [pairC_append, List.take_left' (by rw [pairC_length, hl])] at hc
  exact ⟨hc.celR, hl, (fun e => by cases e), hn, by unfold maxLen; show m ≤ _; omega, by show n ≤ _; omega⟩
structure SmallS (S : RecS) : Prop where
  k : S.K.n ≤ 1000000
  o : S.O.n ≤ 1000000
  n : S.N.n ≤ 1000000
  d : S.D.n ≤ 1000000
  p : S.P.n ≤ 1000000
theorem LentIs.is {w w0 : World} {B : Nat} {R : Rec} {S : RecS} {gk go gn gd gp : Nat} (h : LentIs w B R S gk go gn gd gp) (h0 : RecIs w0 R S) (hs : SmallS S) : RecIs w R (lentS S gk go gn gd gp) := by
  have a := hs.k; have b := hs.o; have c := hs.n; have d := hs.d; have e := hs.p
  exact ⟨h.k.slB h0.key.len (by omega) (by omega), h.o.slB h0.old.len (by omega) (by omega), h.n.slB h0.new.len (by omega) (by omega), h.d.slP h0.dirty.len (by omega) (by omega), h.p.slP h0.opn.len (by omega) (by omega)⟩
def LentTP (K O N : Sl) (key old new : List Int) (w : World) (e : Ending) (w' : World) : Prop :=
  ∃ gk go gn, e = .returned (.agg #[.slice (some ⟨gk, 0, none⟩) K.n (K.n + 12), .slice (some ⟨go, 0, none⟩) O.n (O.n + 12), .slice (some ⟨gn, 0, none⟩) N.n (N.n + 12)]) ∧ RowB w' 5 gk (K.n + 12) (K.n + 12) (key ++ marksB 1 12) ∧ RowB w' 5 go (O.n + 12) (O.n + 12) (old ++ marksB 1 12) ∧ RowB w' 5 gn (N.n + 12) (N.n + 12) (new ++ marksB 1 12) ∧ w.heap.size ≤ gk ∧ gk < go ∧ go < gn ∧ Turned (fun _ => False) w w'
def LentRP (R : Rec) (S : RecS) (w : World) (e : Ending) (w' : World) : Prop :=
  ∃ gk go gn gd gp, e = .returned (.agg (recC R (lentS S gk go gn gd gp))) ∧ LentIs w' w.heap.size R S gk go gn gd gp ∧ Turned (fun _ => False) w w'
theorem Blk.set3 {w : World} {g : Nat} {T : TypeId} {a0 a1 a2 : Value} (v0 v1 v2 : Value) (h : Blk w g T #[a0, a1, a2]) : Blk (((w.setCell ⟨g, 0, none⟩ v0).setCell ⟨g, 1, none⟩ v1).setCell ⟨g, 2, none⟩ v2) g T #[v0, v1, v2] := by
  have h1 := ((h.set_ 0 v0).set_ 1 v1).set_ 2 v2
  simp only [List.setIfInBounds_toArray, List.set_cons_zero, List.set_cons_succ] at h1
  exact h1
set_option maxRecDepth 100000 in
set_option maxHeartbeats 4000000 in
theorem lentT_any (K O N : Sl) (key old new : List Int) (w : World) (hk : SlB w K key) (ho : SlB w O old) (hn : SlB w N new) (k1 : K.n ≤ 1000000) (o1 : O.n ≤ 1000000) (n1 : N.n ≤ 1000000) : Calls Tryz.prog 28 #[.agg #[.slice K.A K.n K.c, .slice O.A O.n O.c, .slice N.A N.n N.c]] w (LentTP K O N key old new w) := by
  obtain ⟨KA, Kn, Kc⟩ := K
  obtain ⟨OA, On, Oc⟩ := O
  obtain ⟨NA, Nn, Nc⟩ := N
  simp only at k1 o1 n1 ⊢
  have HK := Lib.hid hk
  have HO := Lib.hid ho
  have HN := Lib.hid hn
  clear hk ho hn
  have XB2 := Lib.hid ((Blk.new w 25 #[.slice KA Kn Kc, .slice OA On Oc, .slice NA Nn Nc]).alloc (.cells #[.slice none 0 0, .slice none 0 0, .slice none 0 0] 25))
  have ZB2 := Lib.hid (Blk.new_at (k := w.heap.size + 1) (w.alloc (.cells #[.slice KA Kn Kc, .slice OA On Oc, .slice NA Nn Nc] 25)) 25 #[.slice none 0 0, .slice none 0 0, .slice none 0 0] (by simp))
  have T2 := Lib.hid (((Turned.refl (fun _ => False) w).alloc (.cells #[.slice KA Kn Kc, .slice OA On Oc, .slice NA Nn Nc] 25)).alloc (.cells #[.slice none 0 0, .slice none 0 0, .slice none 0 0] 25))
  go_enter Tryz.func28, Tryz.ntmps28
  go_wp2_with fail
  generalize (w.alloc (.cells #[.slice KA Kn Kc, .slice OA On Oc, .slice NA Nn Nc] 25)).alloc (.cells #[.slice none 0 0, .slice none 0 0, .slice none 0 0] 25) = w2 at *
  obtain ⟨bx, hbx⟩ : ∃ bx, bx = w.heap.size := ⟨_, rfl⟩
  obtain ⟨bz, hbz⟩ : ∃ bz, bz = w.heap.size + 1 := ⟨_, rfl⟩
  rw [← hbz] at ZB2 ⊢
  rw [← hbx] at XB2 ⊢
  have hne : ¬ bx = bz := by omega
  have hne2 : ¬ bz = bx := by omega
  have hbx0 := hbx
  have hbz0 := hbz
  clear hbx hbz
  have hbx := Lib.hid hbx0
  have hbz := Lib.hid hbz0
  clear hbx0 hbz0
  have s2 : bz < w2.heap.size := ZB2.out.lt
  have hbb : bx < bz := by have := hbx.out; have := hbz.out; omega
  refine (lent_bytes KA Kn Kc key w2 (HK.out.fresh T2.out).bytS k1).mono ?_
  rintro e w3 ⟨gk, rfl, rk, hk, t3⟩
  have T3 := Lib.hid (T2.out.and_ t3)
  have XB3 := XB2.out.turned t3 (fun e => e)
  have ZB3 := ZB2.out.turned t3 (fun e => e)
  have s3 := Nat.lt_of_lt_of_le s2 t3.size
  have rkN : bz < gk := by omega
  have ltk := rk.lt
  have rk := Lib.hid rk
  have x0 : w3.cell? ⟨bx, 0, none⟩ = some (.slice KA Kn Kc) := XB3.cell 0
  have x1 : w3.cell? ⟨bx, 1, none⟩ = some (.slice OA On Oc) := XB3.cell 1
  have x2 : w3.cell? ⟨bx, 2, none⟩ = some (.slice NA Nn Nc) := XB3.cell 2
  have xf := XB3.frozen
  have tS := ((Turned.refl (fun i => i = bx) w3).setCell (p := ⟨bx, 0, none⟩) (.inl rfl) (.slice (some ⟨gk, 0, none⟩) Kn (Kn + 12)))
  have XB4 : Blk (w3.setCell ⟨bx, 0, none⟩ (.slice (some ⟨gk, 0, none⟩) Kn (Kn + 12))) bx 25 #[.slice (some ⟨gk, 0, none⟩) Kn (Kn + 12), .slice OA On Oc, .slice NA Nn Nc] := by
    have h := (XB3.set_ 0 (.slice (some ⟨gk, 0, none⟩) Kn (Kn + 12)))
    simp only [List.setIfInBounds_toArray, List.set_cons_zero, List.set_cons_succ] at h
    exact h
  have ZB4 := ZB3.turned tS (fun e => hne2 e)
  have T4 := Lib.hid (T3.out.trans (W := fun _ => False) tS (fun _ e => e) (fun i e => .inr (by have := hbx.out; omega)))
  have y0 : (w3.setCell ⟨bx, 0, none⟩ (.slice (some ⟨gk, 0, none⟩) Kn (Kn + 12))).cell? ⟨bx, 0, none⟩ = some (.slice (some ⟨gk, 0, none⟩) Kn (Kn + 12)) := XB4.cell 0
  have y1 : (w3.setCell ⟨bx, 0, none⟩ (.slice (some ⟨gk, 0, none⟩) Kn (Kn + 12))).cell? ⟨bx, 1, none⟩ = some (.slice OA On Oc) := XB4.cell 1
  have y2 : (w3.setCell ⟨bx, 0, none⟩ (.slice (some ⟨gk, 0, none⟩) Kn (Kn + 12))).cell? ⟨bx, 2, none⟩ = some (.slice NA Nn Nc) := XB4.cell 2
  go_wp2_with fail
  have rk := Lib.hid (rk.out.turned tS (fun e => by have := rkN; omega))
  have s4 := Nat.lt_of_lt_of_le s3 tS.size
  generalize (w3.setCell ⟨bx, 0, none⟩ (.slice (some ⟨gk, 0, none⟩) Kn (Kn + 12))) = w4 at *
  clear x0 x1 x2 y0 y1 y2 xf
  clear XB3 ZB3 tS t3 T3 XB2 ZB2 T2
  have XB4 := Lib.hid XB4
  have ZB4 := Lib.hid ZB4
  refine (lent_bytes OA On Oc old w4 (HO.out.fresh T4.out).bytS o1).mono ?_
  rintro e w5 ⟨go, rfl, ro, ho, t5⟩
  have T5 := Lib.hid (T4.out.and_ t5)
  have XB5 := XB4.out.turned t5 (fun e => e)
  have ZB5 := ZB4.out.turned t5 (fun e => e)
  have s5 := Nat.lt_of_lt_of_le s4 t5.size
  have roN : bz < go := by omega
  have lto := ro.lt
  have hko : gk < go := by have := rk.out.lt; omega
  have rk := Lib.hid (rk.out.turned t5 (fun e => e))
  have ro := Lib.hid ro
  have x0 : w5.cell? ⟨bx, 0, none⟩ = some (.slice (some ⟨gk, 0, none⟩) Kn (Kn + 12)) := XB5.cell 0
  have x1 : w5.cell? ⟨bx, 1, none⟩ = some (.slice OA On Oc) := XB5.cell 1
  have x2 : w5.cell? ⟨bx, 2, none⟩ = some (.slice NA Nn Nc) := XB5.cell 2
  have xf := XB5.frozen
  have tS := ((Turned.refl (fun i => i = bx) w5).setCell (p := ⟨bx, 1, none⟩) (.inl rfl) (.slice (some ⟨go, 0, none⟩) On (On + 12)))
  have XB6 : Blk (w5.setCell ⟨bx, 1, none⟩ (.slice (some ⟨go, 0, none⟩) On (On + 12))) bx 25 #[.slice (some ⟨gk, 0, none⟩) Kn (Kn + 12), .slice (some ⟨go, 0, none⟩) On (On + 12), .slice NA Nn Nc] := by
    have h := (XB5.set_ 1 (.slice (some ⟨go, 0, none⟩) On (On + 12)))
    simp only [List.setIfInBounds_toArray, List.set_cons_zero, List.set_cons_succ] at h
    exact h
  have ZB6 := ZB5.turned tS (fun e => hne2 e)
  have T6 := Lib.hid (T5.out.trans (W := fun _ => False) tS (fun _ e => e) (fun i e => .inr (by have := hbx.out; omega)))
  have y0 : (w5.setCell ⟨bx, 1, none⟩ (.slice (some ⟨go, 0, none⟩) On (On + 12))).cell? ⟨bx, 0, none⟩ = some (.slice (some ⟨gk, 0, none⟩) Kn (Kn + 12)) := XB6.cell 0
  have y1 : (w5.setCell ⟨bx, 1, none⟩ (.slice (some ⟨go, 0, none⟩) On (On + 12))).cell? ⟨bx, 1, none⟩ = some (.slice (some ⟨go, 0, none⟩) On (On + 12)) := XB6.cell 1
  have y2 : (w5.setCell ⟨bx, 1, none⟩ (.slice (some ⟨go, 0, none⟩) On (On + 12))).cell? ⟨bx, 2, none⟩ = some (.slice NA Nn Nc) := XB6.cell 2
  go_wp2_with fail
  have rk := Lib.hid (rk.out.turned tS (fun e => by have := rkN; omega))
  have ro := Lib.hid (ro.out.turned tS (fun e => by have := roN; omega))
  have s6 := Nat.lt_of_lt_of_le s5 tS.size
  generalize (w5.setCell ⟨bx, 1, none⟩ (.slice (some ⟨go, 0, none⟩) On (On + 12))) = w6 at *
  clear x0 x1 x2 y0 y1 y2 xf
  clear XB5 ZB5 tS t5 T5 XB4 ZB4 T4
  have XB6 := Lib.hid XB6
  have ZB6 := Lib.hid ZB6
  refine (lent_bytes NA Nn Nc new w6 (HN.out.fresh T6.out).bytS n1).mono ?_
  rintro e w7 ⟨gn, rfl, rn, hn, t7⟩
  have T7 := Lib.hid (T6.out.and_ t7)
  have XB7 := XB6.out.turned t7 (fun e => e)
  have ZB7 := ZB6.out.turned t7 (fun e => e)
  have s7 := Nat.lt_of_lt_of_le s6 t7.size
  have rnN : bz < gn := by omega
  have ltn := rn.lt
  have hon : go < gn := by have := ro.out.lt; omega
  have rk := Lib.hid (rk.out.turned t7 (fun e => e))
  have ro := Lib.hid (ro.out.turned t7 (fun e => e))
  have rn := Lib.hid rn
  have x0 : w7.cell? ⟨bx, 0, none⟩ = some (.slice (some ⟨gk, 0, none⟩) Kn (Kn + 12)) := XB7.cell 0
  have x1 : w7.cell? ⟨bx, 1, none⟩ = some (.slice (some ⟨go, 0, none⟩) On (On + 12)) := XB7.cell 1
  have x2 : w7.cell? ⟨bx, 2, none⟩ = some (.slice NA Nn Nc) := XB7.cell 2
  have xf := XB7.frozen
  have tS := ((Turned.refl (fun i => i = bx) w7).setCell (p := ⟨bx, 2, none⟩) (.inl rfl) (.slice (some ⟨gn, 0, none⟩) Nn (Nn + 12)))
  have XB8 : Blk (w7.setCell ⟨bx, 2, none⟩ (.slice (some ⟨gn, 0, none⟩) Nn (Nn + 12))) bx 25 #[.slice (some ⟨gk, 0, none⟩) Kn (Kn + 12), .slice (some ⟨go, 0, none⟩) On (On + 12), .slice (some ⟨gn, 0, none⟩) Nn (Nn + 12)] := by
    have h := (XB7.set_ 2 (.slice (some ⟨gn, 0, none⟩) Nn (Nn + 12)))
    simp only [List.setIfInBounds_toArray, List.set_cons_zero, List.set_cons_succ] at h
    exact h
  have ZB8 := ZB7.turned tS (fun e => hne2 e)
  have T8 := Lib.hid (T7.out.trans (W := fun _ => False) tS (fun _ e => e) (fun i e => .inr (by have := hbx.out; omega)))
  have y0 : (w7.setCell ⟨bx, 2, none⟩ (.slice (some ⟨gn, 0, none⟩) Nn (Nn + 12))).cell? ⟨bx, 0, none⟩ = some (.slice (some ⟨gk, 0, none⟩) Kn (Kn + 12)) := XB8.cell 0
  have y1 : (w7.setCell ⟨bx, 2, none⟩ (.slice (some ⟨gn, 0, none⟩) Nn (Nn + 12))).cell? ⟨bx, 1, none⟩ = some (.slice (some ⟨go, 0, none⟩) On (On + 12)) := XB8.cell 1
  have y2 : (w7.setCell ⟨bx, 2, none⟩ (.slice (some ⟨gn, 0, none⟩) Nn (Nn + 12))).cell? ⟨bx, 2, none⟩ = some (.slice (some ⟨gn, 0, none⟩) Nn (Nn + 12)) := XB8.cell 2
  have z0 : (w7.setCell ⟨bx, 2, none⟩ (.slice (some ⟨gn, 0, none⟩) Nn (Nn + 12))).cell? ⟨bz, 0, none⟩ = some (.slice none 0 0) := ZB8.cell 0
  have z1 : (w7.setCell ⟨bx, 2, none⟩ (.slice (some ⟨gn, 0, none⟩) Nn (Nn + 12))).cell? ⟨bz, 1, none⟩ = some (.slice none 0 0) := ZB8.cell 1
  have z2 : (w7.setCell ⟨bx, 2, none⟩ (.slice (some ⟨gn, 0, none⟩) Nn (Nn + 12))).cell? ⟨bz, 2, none⟩ = some (.slice none 0 0) := ZB8.cell 2
  have zf := ZB8.frozen
  go_wp2_with fail
  have rk := Lib.hid (rk.out.turned tS (fun e => by have := rkN; omega))
  have ro := Lib.hid (ro.out.turned tS (fun e => by have := roN; omega))
  have rn := Lib.hid (rn.out.turned tS (fun e => by have := rnN; omega))
  generalize (w7.setCell ⟨bx, 2, none⟩ (.slice (some ⟨gn, 0, none⟩) Nn (Nn + 12))) = w8 at *
  clear x0 x1 x2 y0 y1 y2 xf
  clear z0 z1 z2 zf tS XB7 ZB7 t7
  have tZ := ((((Turned.refl (fun i => i = bz) w8).setCell (p := ⟨bz, 0, none⟩) (.inl rfl) (.slice (some ⟨gk, 0, none⟩) Kn (Kn + 12))).setCell (p := ⟨bz, 1, none⟩) (.inl rfl) (.slice (some ⟨go, 0, none⟩) On (On + 12))).setCell (p := ⟨bz, 2, none⟩) (.inl rfl) (.slice (some ⟨gn, 0, none⟩) Nn (Nn + 12)))
  have XZ := Blk.set3 (.slice (some ⟨gk, 0, none⟩) Kn (Kn + 12)) (.slice (some ⟨go, 0, none⟩) On (On + 12)) (.slice (some ⟨gn, 0, none⟩) Nn (Nn + 12)) ZB8
  have TZ := T8.out.trans (W := fun _ => False) tZ (fun _ e => e) (fun i e => .inr (by have := hbz.out; omega))
  have rk := rk.out.turned tZ (fun e => by have := rkN; omega)
  have ro := ro.out.turned tZ (fun e => by have := roN; omega)
  have rn := rn.out.turned tZ (fun e => by have := rnN; omega)
  generalize (((w8.setCell ⟨bz, 0, none⟩ (.slice (some ⟨gk, 0, none⟩) Kn (Kn + 12))).setCell ⟨bz, 1, none⟩ (.slice (some ⟨go, 0, none⟩) On (On + 12))).setCell ⟨bz, 2, none⟩ (.slice (some ⟨gn, 0, none⟩) Nn (Nn + 12))) = wz at *
  have e0 : wz.cell? ⟨bz, 0, none⟩ = some (.slice (some ⟨gk, 0, none⟩) Kn (Kn + 12)) := XZ.cell 0
  have e1 : wz.cell? ⟨bz, 1, none⟩ = some (.slice (some ⟨go, 0, none⟩) On (On + 12)) := XZ.cell 1
  have e2 : wz.cell? ⟨bz, 2, none⟩ = some (.slice (some ⟨gn, 0, none⟩) Nn (Nn + 12)) := XZ.cell 2
  refine bodyPost_ret (v := .agg #[.slice (some ⟨gk, 0, none⟩) Kn (Kn + 12), .slice (some ⟨go, 0, none⟩) On (On + 12), .slice (some ⟨gn, 0, none⟩) Nn (Nn + 12)]) (by simp [results, Tryz.results28, go_sem, e0, e1, e2]) rfl ?_
  exact ⟨gk, go, gn, rfl, rk, ro, rn, by have := hbz.out; omega, hko, hon, TZ⟩
set_option maxRecDepth 100000 in
set_option maxHeartbeats 4000000 in
theorem lentR_any (R : Rec) (S : RecS) (w : World) (h : RecIs w R S) (hs : SmallS S) : Calls Tryz.prog 8 #[.agg (recC R S)] w (LentRP R S w) := by
  have a1 := hs.k; have a2 := hs.o; have a3 := hs.n; have a4 := hs.d; have a5 := hs.p
  have H := Lib.hid h
  clear h hs
  obtain ⟨lsn, work, prev, next, kind, page, key, old, new, dirty, opn⟩ := R
  obtain ⟨⟨KA, Kn, Kc⟩, ⟨OA, On, Oc⟩, ⟨NA, Nn, Nc⟩, ⟨DA, Dn, Dc⟩, ⟨PA, Pn, Pc⟩⟩ := S
  simp only at a1 a2 a3 a4 a5
  unfold recC
  simp only
  have XB2 := Lib.hid ((Blk.new w 29 #[.int .i64 lsn, .int .i64 work, .int .i64 prev, .int .i64 next, .int .u8 kind, .int .i64 page, .slice KA Kn Kc, .slice OA On Oc, .slice NA Nn Nc, .slice DA Dn Dc, .slice PA Pn Pc]).alloc (.cells #[.int .i64 0, .int .i64 0, .int .i64 0, .int .i64 0, .int .u8 0, .int .i64 0, .slice none 0 0, .slice none 0 0, .slice none 0 0, .slice none 0 0, .slice none 0 0] 29))
  have ZB2 := Lib.hid (Blk.new_at (k := w.heap.size + 1) (w.alloc (.cells #[.int .i64 lsn, .int .i64 work, .int .i64 prev, .int .i64 next, .int .u8 kind, .int .i64 page, .slice KA Kn Kc, .slice OA On Oc, .slice NA Nn Nc, .slice DA Dn Dc, .slice PA Pn Pc] 29)) 29 #[.int .i64 0, .int .i64 0, .int .i64 0, .int .i64 0, .int .u8 0, .int .i64 0, .slice none 0 0, .slice none 0 0, .slice none 0 0, .slice none 0 0, .slice none 0 0] (by simp))
  have T2 := Lib.hid (((Turned.refl (fun _ => False) w).alloc (.cells #[.int .i64 lsn, .int .i64 work, .int .i64 prev, .int .i64 next, .int .u8 kind, .int .i64 page, .slice KA Kn Kc, .slice OA On Oc, .slice NA Nn Nc, .slice DA Dn Dc, .slice PA Pn Pc] 29)).alloc (.cells #[.int .i64 0, .int .i64 0, .int .i64 0, .int .i64 0, .int .u8 0, .int .i64 0, .slice none 0 0, .slice none 0 0, .slice none 0 0, .slice none 0 0, .slice none 0 0] 29))
  go_enter Tryz.func8, Tryz.ntmps8
  go_wp2_with fail
  generalize (w.alloc (.cells #[.int .i64 lsn, .int .i64 work, .int .i64 prev, .int .i64 next, .int .u8 kind, .int .i64 page, .slice KA Kn Kc, .slice OA On Oc, .slice NA Nn Nc, .slice DA Dn Dc, .slice PA Pn Pc] 29)).alloc (.cells #[.int .i64 0, .int .i64 0, .int .i64 0, .int .i64 0, .int .u8 0, .int .i64 0, .slice none 0 0, .slice none 0 0, .slice none 0 0, .slice none 0 0, .slice none 0 0] 29) = w2 at *
  obtain ⟨bx, hbx⟩ : ∃ bx, bx = w.heap.size := ⟨_, rfl⟩
  obtain ⟨bz, hbz⟩ : ∃ bz, bz = w.heap.size + 1 := ⟨_, rfl⟩
  rw [← hbz] at ZB2 ⊢
  rw [← hbx] at XB2 ⊢
  have hne : ¬ bx = bz := by omega
  have hne2 : ¬ bz = bx := by omega
  have hbx0 := hbx
  have hbz0 := hbz
  clear hbx hbz
  have hbx := Lib.hid hbx0
  have hbz := Lib.hid hbz0
  clear hbx0 hbz0
  have s2 : bz < w2.heap.size := ZB2.out.lt
  have hbb : bx < bz := by have := hbx.out; have := hbz.out; omega
  refine (lentT_any ⟨KA, Kn, Kc⟩ ⟨OA, On, Oc⟩ ⟨NA, Nn, Nc⟩ key old new w2 (H.out.key.fresh T2.out) (H.out.old.fresh T2.out) (H.out.new.fresh T2.out) a1 a2 a3).mono ?_
  rintro e w3 ⟨gk, go, gn, rfl, rk, ro, rn, hk, hko, hon, t3⟩
  have T3 := Lib.hid (T2.out.and_ t3)
  have XB3 := XB2.out.turned t3 (fun e => e)
  have ZB3 := ZB2.out.turned t3 (fun e => e)
  have s3 := Nat.lt_of_lt_of_le s2 t3.size
  have rkN : bz < gk := by omega
  have roN : bz < go := by omega
  have rnN : bz < gn := by omega
  have rk := Lib.hid rk
  have ro := Lib.hid ro
  have rn := Lib.hid rn
  obtain ⟨x0, x1, x2, x3, x4, x5, x6, x7, x8, x9, x10⟩ := XB3.cells11
  have xf := XB3.frozen
  have tS := ((((Turned.refl (fun i => i = bx) w3).setCell (p := ⟨bx, 6, none⟩) (.inl rfl) (.slice (some ⟨gk, 0, none⟩) Kn (Kn + 12))).setCell (p := ⟨bx, 7, none⟩) (.inl rfl) (.slice (some ⟨go, 0, none⟩) On (On + 12))).setCell (p := ⟨bx, 8, none⟩) (.inl rfl) (.slice (some ⟨gn, 0, none⟩) Nn (Nn + 12)))
  have XB4 : Blk (((w3.setCell ⟨bx, 6, none⟩ (.slice (some ⟨gk, 0, none⟩) Kn (Kn + 12))).setCell ⟨bx, 7, none⟩ (.slice (some ⟨go, 0, none⟩) On (On + 12))).setCell ⟨bx, 8, none⟩ (.slice (some ⟨gn, 0, none⟩) Nn (Nn + 12))) bx 29 #[.int .i64 lsn, .int .i64 work, .int .i64 prev, .int .i64 next, .int .u8 kind, .int .i64 page, .slice (some ⟨gk, 0, none⟩) Kn (Kn + 12), .slice (some ⟨go, 0, none⟩) On (On + 12), .slice (some ⟨gn, 0, none⟩) Nn (Nn + 12), .slice DA Dn Dc, .slice PA Pn Pc] := by
    have h := (((XB3.set_ 6 (.slice (some ⟨gk, 0, none⟩) Kn (Kn + 12))).set_ 7 (.slice (some ⟨go, 0, none⟩) On (On + 12))).set_ 8 (.slice (some ⟨gn, 0, none⟩) Nn (Nn + 12)))
    simp only [List.setIfInBounds_toArray, List.set_cons_zero, List.set_cons_succ] at h
    exact h
  have ZB4 := ZB3.turned tS (fun e => hne2 e)
  have T4 := Lib.hid (T3.out.trans (W := fun _ => False) tS (fun _ e => e) (fun i e => .inr (by have := hbx.out; omega)))
  obtain ⟨y0, y1, y2, y3, y4, y5, y6, y7, y8, y9, y10⟩ := XB4.cells11
  go_wp2_with fail
  have rk := Lib.hid (rk.out.turned tS (fun e => by have := rkN; omega))
  have ro := Lib.hid (ro.out.turned tS (fun e => by have := roN; omega))
  have rn := Lib.hid (rn.out.turned tS (fun e => by have := rnN; omega))
  have s4 := Nat.lt_of_lt_of_le s3 tS.size
  generalize (((w3.setCell ⟨bx, 6, none⟩ (.slice (some ⟨gk, 0, none⟩) Kn (Kn + 12))).setCell ⟨bx, 7, none⟩ (.slice (some ⟨go, 0, none⟩) On (On + 12))).setCell ⟨bx, 8, none⟩ (.slice (some ⟨gn, 0, none⟩) Nn (Nn + 12))) = w4 at *
  clear x0 x1 x2 x3 x4 x5 x6 x7 x8 x9 x10 y0 y1 y2 y3 y4 y5 y6 y7 y8 y9 y10 xf
  clear XB3 ZB3 tS t3 T3 XB2 ZB2 T2
  have XB4 := Lib.hid XB4
  have ZB4 := Lib.hid ZB4
  refine (lentD_any DA Dn Dc dirty w4 (H.out.dirty.fresh T4.out) a4).mono ?_
  rintro e w5 ⟨gd, rfl, rd, hd, t5⟩
  have T5 := Lib.hid (T4.out.and_ t5)
  have XB5 := XB4.out.turned t5 (fun e => e)
  have ZB5 := ZB4.out.turned t5 (fun e => e)
  have s5 := Nat.lt_of_lt_of_le s4 t5.size
  have rdN : bz < gd := by omega
  have hnd : gn < gd := by have := rn.out.lt; omega
  have rk := Lib.hid (rk.out.turned t5 (fun e => e))
  have ro := Lib.hid (ro.out.turned t5 (fun e => e))
  have rn := Lib.hid (rn.out.turned t5 (fun e => e))
  have rd := Lib.hid rd
  obtain ⟨x0, x1, x2, x3, x4, x5, x6, x7, x8, x9, x10⟩ := XB5.cells11
  have xf := XB5.frozen
  have tS := ((Turned.refl (fun i => i = bx) w5).setCell (p := ⟨bx, 9, none⟩) (.inl rfl) (.slice (some ⟨gd, 0, none⟩) Dn (Dn + 12)))
  have XB6 : Blk (w5.setCell ⟨bx, 9, none⟩ (.slice (some ⟨gd, 0, none⟩) Dn (Dn + 12))) bx 29 #[.int .i64 lsn, .int .i64 work, .int .i64 prev, .int .i64 next, .int .u8 kind, .int .i64 page, .slice (some ⟨gk, 0, none⟩) Kn (Kn + 12), .slice (some ⟨go, 0, none⟩) On (On + 12), .slice (some ⟨gn, 0, none⟩) Nn (Nn + 12), .slice (some ⟨gd, 0, none⟩) Dn (Dn + 12), .slice PA Pn Pc] := by
    have h := (XB5.set_ 9 (.slice (some ⟨gd, 0, none⟩) Dn (Dn + 12)))
    simp only [List.setIfInBounds_toArray, List.set_cons_zero, List.set_cons_succ] at h
    exact h
  have ZB6 := ZB5.turned tS (fun e => hne2 e)
  have T6 := Lib.hid (T5.out.trans (W := fun _ => False) tS (fun _ e => e) (fun i e => .inr (by have := hbx.out; omega)))
  obtain ⟨y0, y1, y2, y3, y4, y5, y6, y7, y8, y9, y10⟩ := XB6.cells11
  go_wp2_with fail
  have rk := Lib.hid (rk.out.turned tS (fun e => by have := rkN; omega))
  have ro := Lib.hid (ro.out.turned tS (fun e => by have := roN; omega))
  have rn := Lib.hid (rn.out.turned tS (fun e => by have := rnN; omega))
  have rd := Lib.hid (rd.out.turned tS (fun e => by have := rdN; omega))
  have s6 := Nat.lt_of_lt_of_le s5 tS.size
  generalize (w5.setCell ⟨bx, 9, none⟩ (.slice (some ⟨gd, 0, none⟩) Dn (Dn + 12))) = w6 at *
  clear x0 x1 x2 x3 x4 x5 x6 x7 x8 x9 x10 y0 y1 y2 y3 y4 y5 y6 y7 y8 y9 y10 xf
  clear XB5 ZB5 tS t5 T5 XB4 ZB4 T4
  have XB6 := Lib.hid XB6
  have ZB6 := Lib.hid ZB6
  refine (lentO_any PA Pn Pc opn w6 (H.out.opn.fresh T6.out) a5).mono ?_
  rintro e w7 ⟨gp, rfl, rp, hp, t7⟩
  have T7 := Lib.hid (T6.out.and_ t7)
  have XB7 := XB6.out.turned t7 (fun e => e)
  have ZB7 := ZB6.out.turned t7 (fun e => e)
  have s7 := Nat.lt_of_lt_of_le s6 t7.size
  have rpN : bz < gp := by omega
  have hdp : gd < gp := by have := rd.out.lt; omega
  have rk := Lib.hid (rk.out.turned t7 (fun e => e))
  have ro := Lib.hid (ro.out.turned t7 (fun e => e))
  have rn := Lib.hid (rn.out.turned t7 (fun e => e))
  have rd := Lib.hid (rd.out.fresh t7)
  have rp := Lib.hid rp
  obtain ⟨x0, x1, x2, x3, x4, x5, x6, x7, x8, x9, x10⟩ := XB7.cells11
  have xf := XB7.frozen
  have tS := ((Turned.refl (fun i => i = bx) w7).setCell (p := ⟨bx, 10, none⟩) (.inl rfl) (.slice (some ⟨gp, 0, none⟩) Pn (Pn + 12)))
  have XB8 : Blk (w7.setCell ⟨bx, 10, none⟩ (.slice (some ⟨gp, 0, none⟩) Pn (Pn + 12))) bx 29 #[.int .i64 lsn, .int .i64 work, .int .i64 prev, .int .i64 next, .int .u8 kind, .int .i64 page, .slice (some ⟨gk, 0, none⟩) Kn (Kn + 12), .slice (some ⟨go, 0, none⟩) On (On + 12), .slice (some ⟨gn, 0, none⟩) Nn (Nn + 12), .slice (some ⟨gd, 0, none⟩) Dn (Dn + 12), .slice (some ⟨gp, 0, none⟩) Pn (Pn + 12)] := by
    have h := (XB7.set_ 10 (.slice (some ⟨gp, 0, none⟩) Pn (Pn + 12)))
    simp only [List.setIfInBounds_toArray, List.set_cons_zero, List.set_cons_succ] at h
    exact h
  have ZB8 := ZB7.turned tS (fun e => hne2 e)
  have T8 := Lib.hid (T7.out.trans (W := fun _ => False) tS (fun _ e => e) (fun i e => .inr (by have := hbx.out; omega)))
  obtain ⟨y0, y1, y2, y3, y4, y5, y6, y7, y8, y9, y10⟩ := XB8.cells11
  obtain ⟨z0, z1, z2, z3, z4, z5, z6, z7, z8, z9, z10⟩ := ZB8.cells11
  have zf := ZB8.frozen
  go_wp2_with fail
  have rk := Lib.hid (rk.out.turned tS (fun e => by have := rkN; omega))
  have ro := Lib.hid (ro.out.turned tS (fun e => by have := roN; omega))
  have rn := Lib.hid (rn.out.turned tS (fun e => by have := rnN; omega))
  have rd := Lib.hid (rd.out.turned tS (fun e => by have := rdN; omega))
  have rp := Lib.hid (rp.out.turned tS (fun e => by have := rpN; omega))
  generalize (w7.setCell ⟨bx, 10, none⟩ (.slice (some ⟨gp, 0, none⟩) Pn (Pn + 12))) = w8 at *
  clear x0 x1 x2 x3 x4 x5 x6 x7 x8 x9 x10 y0 y1 y2 y3 y4 y5 y6 y7 y8 y9 y10 xf
  clear z0 z1 z2 z3 z4 z5 z6 z7 z8 z9 z10 zf tS XB7 ZB7 t7
  have tZ := ((((((((((((Turned.refl (fun i => i = bz) w8).setCell (p := ⟨bz, 0, none⟩) (.inl rfl) (.int .i64 lsn)).setCell (p := ⟨bz, 1, none⟩) (.inl rfl) (.int .i64 work)).setCell (p := ⟨bz, 2, none⟩) (.inl rfl) (.int .i64 prev)).setCell (p := ⟨bz, 3, none⟩) (.inl rfl) (.int .i64 next)).setCell (p := ⟨bz, 4, none⟩) (.inl rfl) (.int .u8 kind)).setCell (p := ⟨bz, 5, none⟩) (.inl rfl) (.int .i64 page)).setCell (p := ⟨bz, 6, none⟩) (.inl rfl) (.slice (some ⟨gk, 0, none⟩) Kn (Kn + 12))).setCell (p := ⟨bz, 7, none⟩) (.inl rfl) (.slice (some ⟨go, 0, none⟩) On (On + 12))).setCell (p := ⟨bz, 8, none⟩) (.inl rfl) (.slice (some ⟨gn, 0, none⟩) Nn (Nn + 12))).setCell (p := ⟨bz, 9, none⟩) (.inl rfl) (.slice (some ⟨gd, 0, none⟩) Dn (Dn + 12))).setCell (p := ⟨bz, 10, none⟩) (.inl rfl) (.slice (some ⟨gp, 0, none⟩) Pn (Pn + 12)))
  have XZ := Blk.set11 (.int .i64 lsn) (.int .i64 work) (.int .i64 prev) (.int .i64 next) (.int .u8 kind) (.int .i64 page) (.slice (some ⟨gk, 0, none⟩) Kn (Kn + 12)) (.slice (some ⟨go, 0, none⟩) On (On + 12)) (.slice (some ⟨gn, 0, none⟩) Nn (Nn + 12)) (.slice (some ⟨gd, 0, none⟩) Dn (Dn + 12)) (.slice (some ⟨gp, 0, none⟩) Pn (Pn + 12)) ZB8
  have TZ := T8.out.trans (W := fun _ => False) tZ (fun _ e => e) (fun i e => .inr (by have := hbz.out; omega))
  have rk := rk.out.turned tZ (fun e => by have := rkN; omega)
  have ro := ro.out.turned tZ (fun e => by have := roN; omega)
  have rn := rn.out.turned tZ (fun e => by have := rnN; omega)
  have rd := rd.out.turned tZ (fun e => by have := rdN; omega)
  have rp := rp.out.turned tZ (fun e => by have := rpN; omega)
  generalize (((((((((((w8.setCell ⟨bz, 0, none⟩ (.int .i64 lsn)).setCell ⟨bz, 1, none⟩ (.int .i64 work)).setCell ⟨bz, 2, none⟩ (.int .i64 prev)).setCell ⟨bz, 3, none⟩ (.int .i64 next)).setCell ⟨bz, 4, none⟩ (.int .u8 kind)).setCell ⟨bz, 5, none⟩ (.int .i64 page)).setCell ⟨bz, 6, none⟩ (.slice (some ⟨gk, 0, none⟩) Kn (Kn + 12))).setCell ⟨bz, 7, none⟩ (.slice (some ⟨go, 0, none⟩) On (On + 12))).setCell ⟨bz, 8, none⟩ (.slice (some ⟨gn, 0, none⟩) Nn (Nn + 12))).setCell ⟨bz, 9, none⟩ (.slice (some ⟨gd, 0, none⟩) Dn (Dn + 12))).setCell ⟨bz, 10, none⟩ (.slice (some ⟨gp, 0, none⟩) Pn (Pn + 12))) = wz at *
  obtain ⟨e0, e1, e2, e3, e4, e5, e6, e7, e8, e9, e10⟩ := XZ.cells11
  refine bodyPost_ret (v := .agg #[.int .i64 lsn, .int .i64 work, .int .i64 prev, .int .i64 next, .int .u8 kind, .int .i64 page, .slice (some ⟨gk, 0, none⟩) Kn (Kn + 12), .slice (some ⟨go, 0, none⟩) On (On + 12), .slice (some ⟨gn, 0, none⟩) Nn (Nn + 12), .slice (some ⟨gd, 0, none⟩) Dn (Dn + 12), .slice (some ⟨gp, 0, none⟩) Pn (Pn + 12)]) (by simp [results, Tryz.results8, go_sem, e0, e1, e2, e3, e4, e5, e6, e7, e8, e9, e10]) rfl ?_
  exact ⟨gk, go, gn, gd, gp, rfl, ⟨rk, ro, rn, rd, rp, by have := hbz.out; omega, hko, hon, hnd, hdp⟩, TZ⟩
set_option maxRecDepth 100000 in
set_option maxHeartbeats 4000000 in
theorem keptT_any (K O N : Sl) (key old new : List Int) (gk go gn : Nat) (w : World) (hk : SlB w K key) (ho : SlB w O old) (hn : SlB w N new) (rk : RowB w 5 gk (K.n + 12) (K.n + 12) (key ++ marksB 1 12)) (ro : RowB w 5 go (O.n + 12) (O.n + 12) (old ++ marksB 1 12)) (rn : RowB w 5 gn (N.n + 12) (N.n + 12) (new ++ marksB 1 12)) (k1 : K.n ≤ 1000000) (o1 : O.n ≤ 1000000) (n1 : N.n ≤ 1000000) :
    Calls Tryz.prog 39 #[.agg #[.slice (some ⟨gk, 0, none⟩) K.n (K.n + 12), .slice (some ⟨go, 0, none⟩) O.n (O.n + 12), .slice (some ⟨gn, 0, none⟩) N.n (N.n + 12)], .agg #[.slice K.A K.n K.c, .slice O.A O.n O.c, .slice N.A N.n N.c]] w (RetNew (.bool true) w) := by
  have HS := Lib.hid (fun (w' : World) (t : Turned (fun _ => False) w w') => sameT_any ⟨some ⟨gk, 0, none⟩, K.n, K.n + 12⟩ ⟨some ⟨go, 0, none⟩, O.n, O.n + 12⟩ ⟨some ⟨gn, 0, none⟩, N.n, N.n + 12⟩ K O N key old new w' ((rk.slB hk.len (by omega) (by omega)).fresh t) ((ro.slB ho.len (by omega) (by omega)).fresh t) ((rn.slB hn.len (by omega) (by omega)).fresh t) (hk.fresh t) (ho.fresh t) (hn.fresh t))
  have HK := Lib.hid (fun (w' : World) (t : Turned (fun _ => False) w w') => kept_bytes K.A K.n K.c gk (K.n + 12) key w' (rk.turned t (fun e => e)) (hk.fresh t).bytS.toBytR k1)
  have HO := Lib.hid (fun (w' : World) (t : Turned (fun _ => False) w w') => kept_bytes O.A O.n O.c go (O.n + 12) old w' (ro.turned t (fun e => e)) (ho.fresh t).bytS.toBytR o1)
  have HN := Lib.hid (fun (w' : World) (t : Turned (fun _ => False) w w') => kept_bytes N.A N.n N.c gn (N.n + 12) new w' (rn.turned t (fun e => e)) (hn.fresh t).bytS.toBytR n1)
  clear hk ho hn rk ro rn
  obtain ⟨KA, Kn, Kc⟩ := K
  obtain ⟨OA, On, Oc⟩ := O
  obtain ⟨NA, Nn, Nc⟩ := N
  simp only at HS HK HO HN ⊢
  have A0 := Lib.hid ((Blk.new w 25 #[.slice (some ⟨gk, 0, none⟩) Kn (Kn + 12), .slice (some ⟨go, 0, none⟩) On (On + 12), .slice (some ⟨gn, 0, none⟩) Nn (Nn + 12)]).alloc (.cells #[.slice KA Kn Kc, .slice OA On Oc, .slice NA Nn Nc] 25))
  have B0 := Lib.hid (Blk.new_at (k := w.heap.size + 1) (w.alloc (.cells #[.slice (some ⟨gk, 0, none⟩) Kn (Kn + 12), .slice (some ⟨go, 0, none⟩) On (On + 12), .slice (some ⟨gn, 0, none⟩) Nn (Nn + 12)] 25)) 25 #[.slice KA Kn Kc, .slice OA On Oc, .slice NA Nn Nc] (by simp))
  have t0 := Lib.hid (((Turned.refl (fun _ => False) w).alloc (.cells #[.slice (some ⟨gk, 0, none⟩) Kn (Kn + 12), .slice (some ⟨go, 0, none⟩) On (On + 12), .slice (some ⟨gn, 0, none⟩) Nn (Nn + 12)] 25)).alloc (.cells #[.slice KA Kn Kc, .slice OA On Oc, .slice NA Nn Nc] 25))
  go_enter Tryz.func39, Tryz.ntmps39
  go_wp2_with fail
  generalize (w.alloc (.cells #[.slice (some ⟨gk, 0, none⟩) Kn (Kn + 12), .slice (some ⟨go, 0, none⟩) On (On + 12), .slice (some ⟨gn, 0, none⟩) Nn (Nn + 12)] 25)).alloc (.cells #[.slice KA Kn Kc, .slice OA On Oc, .slice NA Nn Nc] 25) = w0 at *
  refine (HS.out w0 t0.out).mono ?_
  rintro e w1 ⟨rfl, t1⟩
  have T1 := Lib.hid (t0.out.and_ t1)
  have A1 := A0.out.turned t1 (fun e => e)
  have B1 := B0.out.turned t1 (fun e => e)
  have c0 : w1.cell? ⟨w.heap.size, 0, none⟩ = some (.slice (some ⟨gk, 0, none⟩) Kn (Kn + 12)) := A1.cell 0
  have c1 : w1.cell? ⟨w.heap.size, 1, none⟩ = some (.slice (some ⟨go, 0, none⟩) On (On + 12)) := A1.cell 1
  have c2 : w1.cell? ⟨w.heap.size, 2, none⟩ = some (.slice (some ⟨gn, 0, none⟩) Nn (Nn + 12)) := A1.cell 2
  have d0 : w1.cell? ⟨w.heap.size + 1, 0, none⟩ = some (.slice KA Kn Kc) := B1.cell 0
  have d1 : w1.cell? ⟨w.heap.size + 1, 1, none⟩ = some (.slice OA On Oc) := B1.cell 1
  have d2 : w1.cell? ⟨w.heap.size + 1, 2, none⟩ = some (.slice NA Nn Nc) := B1.cell 2
  clear A0 B0 A1 B1 t0 t1 HS
  go_wp2_with fail
  refine (HK.out _ T1.out).mono ?_
  rintro e w2 ⟨rfl, n2, rfl⟩
  go_wp2_with fail
  refine (HO.out _ (T1.out.drewN n2)).mono ?_
  rintro e w3 ⟨rfl, n3, rfl⟩
  go_wp2_with fail
  refine (HN.out _ (T1.out.drewN (n2 + n3))).mono ?_
  rintro e w4 ⟨rfl, n4, rfl⟩
  go_wp2_with fail
  go_ret
  exact ⟨rfl, T1.out.drewN _⟩
set_option maxRecDepth 100000 in
set_option maxHeartbeats 4000000 in
theorem keptR_any (R : Rec) (S : RecS) (gk go gn gd gp B : Nat) (w : World) (h : RecIs w R S) (hl : LentIs w B R S gk go gn gd gp) (hs : SmallS S) :
    Calls Tryz.prog 11 #[.agg (recC R (lentS S gk go gn gd gp)), .agg (recC R S)] w (RetNew (.bool true) w) := by
  have a1 := hs.k; have a2 := hs.o; have a3 := hs.n; have a4 := hs.d; have a5 := hs.p
  have HS := Lib.hid (fun (w' : World) (t : Turned (fun _ => False) w w') => sameR_any R (lentS S gk go gn gd gp) S w' ((hl.fresh t).is h hs) (h.fresh t))
  have HT := Lib.hid (fun (w' : World) (t : Turned (fun _ => False) w w') => keptT_any S.K S.O S.N R.key R.old R.new gk go gn w' (h.key.fresh t) (h.old.fresh t) (h.new.fresh t) (hl.fresh t).k (hl.fresh t).o (hl.fresh t).n a1 a2 a3)
  have HD := Lib.hid (fun (w' : World) (t : Turned (fun _ => False) w w') => keptD_any S.D.A S.D.n S.D.c gd (S.D.n + 12) R.dirty w' (hl.fresh t).d (h.dirty.fresh t) a4)
  have HP := Lib.hid (fun (w' : World) (t : Turned (fun _ => False) w w') => keptO_any S.P.A S.P.n S.P.c gp (S.P.n + 12) R.opn w' (hl.fresh t).p (h.opn.fresh t) a5)
  clear h hl hs
  obtain ⟨lsn, work, prev, next, kind, page, key, old, new, dirty, opn⟩ := R
  obtain ⟨⟨KA, Kn, Kc⟩, ⟨OA, On, Oc⟩, ⟨NA, Nn, Nc⟩, ⟨DA, Dn, Dc⟩, ⟨PA, Pn, Pc⟩⟩ := S
  unfold recC lentS at *
  simp only at HS HT HD HP ⊢
  have A0 := Lib.hid ((Blk.new w 29 #[.int .i64 lsn, .int .i64 work, .int .i64 prev, .int .i64 next, .int .u8 kind, .int .i64 page, .slice (some ⟨gk, 0, none⟩) Kn (Kn + 12), .slice (some ⟨go, 0, none⟩) On (On + 12), .slice (some ⟨gn, 0, none⟩) Nn (Nn + 12), .slice (some ⟨gd, 0, none⟩) Dn (Dn + 12), .slice (some ⟨gp, 0, none⟩) Pn (Pn + 12)]).alloc (.cells #[.int .i64 lsn, .int .i64 work, .int .i64 prev, .int .i64 next, .int .u8 kind, .int .i64 page, .slice KA Kn Kc, .slice OA On Oc, .slice NA Nn Nc, .slice DA Dn Dc, .slice PA Pn Pc] 29))
  have B0 := Lib.hid (Blk.new_at (k := w.heap.size + 1) (w.alloc (.cells #[.int .i64 lsn, .int .i64 work, .int .i64 prev, .int .i64 next, .int .u8 kind, .int .i64 page, .slice (some ⟨gk, 0, none⟩) Kn (Kn + 12), .slice (some ⟨go, 0, none⟩) On (On + 12), .slice (some ⟨gn, 0, none⟩) Nn (Nn + 12), .slice (some ⟨gd, 0, none⟩) Dn (Dn + 12), .slice (some ⟨gp, 0, none⟩) Pn (Pn + 12)] 29)) 29 #[.int .i64 lsn, .int .i64 work, .int .i64 prev, .int .i64 next, .int .u8 kind, .int .i64 page, .slice KA Kn Kc, .slice OA On Oc, .slice NA Nn Nc, .slice DA Dn Dc, .slice PA Pn Pc] (by simp))
  have t0 := Lib.hid (((Turned.refl (fun _ => False) w).alloc (.cells #[.int .i64 lsn, .int .i64 work, .int .i64 prev, .int .i64 next, .int .u8 kind, .int .i64 page, .slice (some ⟨gk, 0, none⟩) Kn (Kn + 12), .slice (some ⟨go, 0, none⟩) On (On + 12), .slice (some ⟨gn, 0, none⟩) Nn (Nn + 12), .slice (some ⟨gd, 0, none⟩) Dn (Dn + 12), .slice (some ⟨gp, 0, none⟩) Pn (Pn + 12)] 29)).alloc (.cells #[.int .i64 lsn, .int .i64 work, .int .i64 prev, .int .i64 next, .int .u8 kind, .int .i64 page, .slice KA Kn Kc, .slice OA On Oc, .slice NA Nn Nc, .slice DA Dn Dc, .slice PA Pn Pc] 29))
  go_enter Tryz.func11, Tryz.ntmps11
  go_wp2_with fail
  generalize (w.alloc (.cells #[.int .i64 lsn, .int .i64 work, .int .i64 prev, .int .i64 next, .int .u8 kind, .int .i64 page, .slice (some ⟨gk, 0, none⟩) Kn (Kn + 12), .slice (some ⟨go, 0, none⟩) On (On + 12), .slice (some ⟨gn, 0, none⟩) Nn (Nn + 12), .slice (some ⟨gd, 0, none⟩) Dn (Dn + 12), .slice (some ⟨gp, 0, none⟩) Pn (Pn + 12)] 29)).alloc (.cells #[.int .i64 lsn, .int .i64 work, .int .i64 prev, .int .i64 next, .int .u8 kind, .int .i64 page, .slice KA Kn Kc, .slice OA On Oc, .slice NA Nn Nc, .slice DA Dn Dc, .slice PA Pn Pc] 29) = w0 at *
  refine (HS.out w0 t0.out).mono ?_
  rintro e w1 ⟨rfl, t1⟩
  have T1 := Lib.hid (t0.out.and_ t1)
  have A1 := A0.out.turned t1 (fun e => e)
  have B1 := B0.out.turned t1 (fun e => e)
  obtain ⟨c0, c1, c2, c3, c4, c5, c6, c7, c8, c9, c10⟩ := A1.cells11
  obtain ⟨d0, d1, d2, d3, d4, d5, d6, d7, d8, d9, d10⟩ := B1.cells11
  have A1 := Lib.hid A1
  have B1 := Lib.hid B1
  clear A0 B0 t0 t1 HS
  go_wp2_with fail
  refine (HT.out _ T1.out).mono ?_
  rintro e w2 ⟨rfl, t2⟩
  have T2 := Lib.hid (T1.out.and_ t2)
  have A2 := A1.out.turned t2 (fun e => e)
  have B2 := B1.out.turned t2 (fun e => e)
  clear c0 d0 c1 d1 c2 d2 c3 d3 c4 d4 c5 d5 c6 d6 c7 d7 c8 d8 c9 d9 c10 d10 A1 B1 T1 t2 HT
  obtain ⟨c0, c1, c2, c3, c4, c5, c6, c7, c8, c9, c10⟩ := A2.cells11
  obtain ⟨d0, d1, d2, d3, d4, d5, d6, d7, d8, d9, d10⟩ := B2.cells11
  have A2 := Lib.hid A2
  have B2 := Lib.hid B2
  go_wp2_with fail
  refine (HD.out _ T2.out).mono ?_
  rintro e w3 ⟨rfl, t3⟩
  have T3 := Lib.hid (T2.out.and_ t3)
  have A3 := A2.out.turned t3 (fun e => e)
  have B3 := B2.out.turned t3 (fun e => e)
  clear c0 d0 c1 d1 c2 d2 c3 d3 c4 d4 c5 d5 c6 d6 c7 d7 c8 d8 c9 d9 c10 d10 A2 B2 T2 t3 HD
  obtain ⟨c0, c1, c2, c3, c4, c5, c6, c7, c8, c9, c10⟩ := A3.cells11
  obtain ⟨d0, d1, d2, d3, d4, d5, d6, d7, d8, d9, d10⟩ := B3.cells11
  clear A3 B3
  go_wp2_with fail
  refine (HP.out _ T3.out).mono ?_
  rintro e w4 ⟨rfl, t4⟩
  have T4 := Lib.hid (T3.out.and_ t4)
  clear t4 T3
  go_wp2_with fail
  go_ret
  exact ⟨rfl, T4.out⟩
set_option maxRecDepth 100000 in
set_option maxHeartbeats 4000000 in
theorem overT_any (Kn On Nn gk go gn : Nat) (xk xo xn : List Int) (w : World) (rk : RowB w 5 gk (Kn + 12) (Kn + 12) xk) (ro : RowB w 5 go (On + 12) (On + 12) xo) (rn : RowB w 5 gn (Nn + 12) (Nn + 12) xn) (hko : gk < go) (hon : go < gn) (k1 : Kn ≤ 1000000) (o1 : On ≤ 1000000) (n1 : Nn ≤ 1000000) :
    Calls Tryz.prog 42 #[.agg #[.slice (some ⟨gk, 0, none⟩) Kn (Kn + 12), .slice (some ⟨go, 0, none⟩) On (On + 12), .slice (some ⟨gn, 0, none⟩) Nn (Nn + 12)]] w (fun e w' => e = .returned (.tuple #[]) ∧ Turned (fun i => i = gk ∨ i = go ∨ i = gn) w w') := by
  have lk := rk.lt; have lo := ro.lt; have ln := rn.lt
  have RK := Lib.hid (rk.turned ((Turned.refl (fun _ => False) w).alloc (.cells #[.slice (some ⟨gk, 0, none⟩) Kn (Kn + 12), .slice (some ⟨go, 0, none⟩) On (On + 12), .slice (some ⟨gn, 0, none⟩) Nn (Nn + 12)] 25)) (fun e => e))
  have RO := Lib.hid (ro.turned ((Turned.refl (fun _ => False) w).alloc (.cells #[.slice (some ⟨gk, 0, none⟩) Kn (Kn + 12), .slice (some ⟨go, 0, none⟩) On (On + 12), .slice (some ⟨gn, 0, none⟩) Nn (Nn + 12)] 25)) (fun e => e))
  have RN := Lib.hid (rn.turned ((Turned.refl (fun _ => False) w).alloc (.cells #[.slice (some ⟨gk, 0, none⟩) Kn (Kn + 12), .slice (some ⟨go, 0, none⟩) On (On + 12), .slice (some ⟨gn, 0, none⟩) Nn (Nn + 12)] 25)) (fun e => e))
  clear rk ro rn
  have A0 := Lib.hid (Blk.new w 25 #[.slice (some ⟨gk, 0, none⟩) Kn (Kn + 12), .slice (some ⟨go, 0, none⟩) On (On + 12), .slice (some ⟨gn, 0, none⟩) Nn (Nn + 12)])
  have T0 := Lib.hid ((Turned.refl (fun i => i = gk ∨ i = go ∨ i = gn) w).alloc (.cells #[.slice (some ⟨gk, 0, none⟩) Kn (Kn + 12), .slice (some ⟨go, 0, none⟩) On (On + 12), .slice (some ⟨gn, 0, none⟩) Nn (Nn + 12)] 25))
  go_enter Tryz.func42, Tryz.ntmps42
  go_wp2_with fail
  generalize w.alloc (.cells #[.slice (some ⟨gk, 0, none⟩) Kn (Kn + 12), .slice (some ⟨go, 0, none⟩) On (On + 12), .slice (some ⟨gn, 0, none⟩) Nn (Nn + 12)] 25) = w0 at *
  refine (over_bytes Kn gk (Kn + 12) xk w0 RK.out k1).mono ?_
  rintro e w1 ⟨rfl, _, t1⟩
  have T1 := Lib.hid (T0.out.trans (W := fun i => i = gk ∨ i = go ∨ i = gn) t1 (fun _ e => e) (fun i e => .inl (by omega)))
  have RO := Lib.hid (RO.out.turned t1 (fun e => by omega))
  have RN := Lib.hid (RN.out.turned t1 (fun e => by omega))
  have A1 := A0.out.turned t1 (fun e => by omega)
  have c0 : w1.cell? ⟨w.heap.size, 0, none⟩ = some (.slice (some ⟨gk, 0, none⟩) Kn (Kn + 12)) := A1.cell 0
  have c1 : w1.cell? ⟨w.heap.size, 1, none⟩ = some (.slice (some ⟨go, 0, none⟩) On (On + 12)) := A1.cell 1
  have c2 : w1.cell? ⟨w.heap.size, 2, none⟩ = some (.slice (some ⟨gn, 0, none⟩) Nn (Nn + 12)) := A1.cell 2
  have A1 := Lib.hid A1
  clear A0 T0 t1
  go_wp2_with fail
  clear c0 c1 c2
  refine (over_bytes On go (On + 12) xo w1 RO.out o1).mono ?_
  rintro e w2 ⟨rfl, _, t2⟩
  have T2 := Lib.hid (T1.out.trans (W := fun i => i = gk ∨ i = go ∨ i = gn) t2 (fun _ e => e) (fun i e => .inl (by omega)))
  have RN := Lib.hid (RN.out.turned t2 (fun e => by omega))
  have A2 := A1.out.turned t2 (fun e => by omega)
  have c0 : w2.cell? ⟨w.heap.size, 0, none⟩ = some (.slice (some ⟨gk, 0, none⟩) Kn (Kn + 12)) := A2.cell 0
  have c1 : w2.cell? ⟨w.heap.size, 1, none⟩ = some (.slice (some ⟨go, 0, none⟩) On (On + 12)) := A2.cell 1
  have c2 : w2.cell? ⟨w.heap.size, 2, none⟩ = some (.slice (some ⟨gn, 0, none⟩) Nn (Nn + 12)) := A2.cell 2
  have A2 := Lib.hid A2
  clear A1 T1 t2
  go_wp2_with fail
  clear c0 c1 c2
  refine (over_bytes Nn gn (Nn + 12) xn w2 RN.out n1).mono ?_
  rintro e w3 ⟨rfl, _, t3⟩
  have T3 := Lib.hid (T2.out.trans (W := fun i => i = gk ∨ i = go ∨ i = gn) t3 (fun _ e => e) (fun i e => .inl (by omega)))
  clear A2 T2 t3
  go_wp2_with fail
  go_end0
  exact ⟨rfl, T3.out⟩
set_option maxRecDepth 100000 in
set_option maxHeartbeats 4000000 in
theorem overR_any (R : Rec) (S : RecS) (gk go gn gd gp B : Nat) (w : World) (hl : LentIs w B R S gk go gn gd gp) (hs : SmallS S) :
    Calls Tryz.prog 12 #[.agg (recC R (lentS S gk go gn gd gp))] w (fun e w' => e = .returned (.tuple #[]) ∧ Turned (fun i => B ≤ i ∧ i ≤ gp) w w') := by
  have a1 := hs.k; have a2 := hs.o; have a3 := hs.n; have a4 := hs.d; have a5 := hs.p
  have b0 := hl.b0; have b1 := hl.b1; have b2 := hl.b2; have b3 := hl.b3; have b4 := hl.b4
  have lk := hl.k.lt; have lo := hl.o.lt; have ln := hl.n.lt; have ld := hl.d.lt; have lp := hl.p.lt
  have HL := Lib.hid (hl.fresh ((Turned.refl (fun _ => False) w).alloc (.cells (recC R (lentS S gk go gn gd gp)) 29)))
  clear hl hs
  obtain ⟨lsn, work, prev, next, kind, page, key, old, new, dirty, opn⟩ := R
  obtain ⟨⟨KA, Kn, Kc⟩, ⟨OA, On, Oc⟩, ⟨NA, Nn, Nc⟩, ⟨DA, Dn, Dc⟩, ⟨PA, Pn, Pc⟩⟩ := S
  unfold recC lentS at *
  simp only at a1 a2 a3 a4 a5 HL ⊢
  have RD := Lib.hid HL.out.d
  have RP := Lib.hid HL.out.p
  have A0 := Lib.hid (Blk.new w 29 #[.int .i64 lsn, .int .i64 work, .int .i64 prev, .int .i64 next, .int .u8 kind, .int .i64 page, .slice (some ⟨gk, 0, none⟩) Kn (Kn + 12), .slice (some ⟨go, 0, none⟩) On (On + 12), .slice (some ⟨gn, 0, none⟩) Nn (Nn + 12), .slice (some ⟨gd, 0, none⟩) Dn (Dn + 12), .slice (some ⟨gp, 0, none⟩) Pn (Pn + 12)])
  have T0 := Lib.hid ((Turned.refl (fun i => B ≤ i ∧ i ≤ gp) w).alloc (.cells #[.int .i64 lsn, .int .i64 work, .int .i64 prev, .int .i64 next, .int .u8 kind, .int .i64 page, .slice (some ⟨gk, 0, none⟩) Kn (Kn + 12), .slice (some ⟨go, 0, none⟩) On (On + 12), .slice (some ⟨gn, 0, none⟩) Nn (Nn + 12), .slice (some ⟨gd, 0, none⟩) Dn (Dn + 12), .slice (some ⟨gp, 0, none⟩) Pn (Pn + 12)] 29))
  go_enter Tryz.func12, Tryz.ntmps12
  go_wp2_with fail
  generalize w.alloc (.cells #[.int .i64 lsn, .int .i64 work, .int .i64 prev, .int .i64 next, .int .u8 kind, .int .i64 page, .slice (some ⟨gk, 0, none⟩) Kn (Kn + 12), .slice (some ⟨go, 0, none⟩) On (On + 12), .slice (some ⟨gn, 0, none⟩) Nn (Nn + 12), .slice (some ⟨gd, 0, none⟩) Dn (Dn + 12), .slice (some ⟨gp, 0, none⟩) Pn (Pn + 12)] 29) = w0 at *
  refine (overT_any Kn On Nn gk go gn _ _ _ w0 HL.out.k HL.out.o HL.out.n b1 b2 a1 a2 a3).mono ?_
  rintro e w1 ⟨rfl, t1⟩
  have T1 := Lib.hid (T0.out.trans (W := fun i => B ≤ i ∧ i ≤ gp) t1 (fun _ e => e) (fun i e => .inl (by omega)))
  have RD := Lib.hid (RD.out.turned t1 (fun e => by omega))
  have RP := Lib.hid (RP.out.turned t1 (fun e => by omega))
  have A1 := A0.out.turned t1 (fun e => by omega)
  obtain ⟨c0, c1, c2, c3, c4, c5, c6, c7, c8, c9, c10⟩ := A1.cells11
  have A1 := Lib.hid A1
  clear A0 T0 t1
  go_wp2_with fail
  clear c0 c1 c2 c3 c4 c5 c6 c7 c8 c9 c10
  refine (overD_any Dn gd (Dn + 12) _ w1 RD.out a4).mono ?_
  rintro e w2 ⟨rfl, t2⟩
  have T2 := Lib.hid (T1.out.trans (W := fun i => B ≤ i ∧ i ≤ gp) t2 (fun _ e => e) (fun i e => .inl (by omega)))
  have RP := Lib.hid (RP.out.turned t2 (fun e => by omega))
  have A2 := A1.out.turned t2 (fun e => by omega)
  obtain ⟨c0, c1, c2, c3, c4, c5, c6, c7, c8, c9, c10⟩ := A2.cells11
  have A2 := Lib.hid A2
  clear A1 T1 t2
  go_wp2_with fail
  clear c0 c1 c2 c3 c4 c5 c6 c7 c8 c9 c10
  refine (overO_any Pn gp (Pn + 12) _ w2 RP.out a5).mono ?_
  rintro e w3 ⟨rfl, t3⟩
  have T3 := Lib.hid (T2.out.trans (W := fun i => B ≤ i ∧ i ≤ gp) t3 (fun _ e => e) (fun i e => .inl (by omega)))
  clear A2 T2 t3
  go_wp2_with fail
  go_end0
  exact ⟨rfl, T3.out⟩
end Go.Proofs.YtohajofkflibjaaGreatDoor

