/-
 What the statements share: tales compared, and lent with marks behind the end of each of their lists. Conditions: at most 1000000 of each.
-/
import Derived.Test.YtglojnmcbochaaaGreatDoorULnT
import Derived.Test.YtglojnmcbochaaaGreatDoorUWrD
import Derived.Deep.MidRow
namespace Go.Proofs.YtglojnmcbochaaaGreatDoor
open Go.RowKit Go.Maps
set_option linter.unusedVariables false
set_option linter.unusedSimpArgs false

theorem Blk.rangeM {w : World} {g : Nat} {t : TypeId} {cs : Array Value} (h : Blk w g t cs) (o n : Nat) : w.rangeAt g o ((cs.toList.drop o).take n) := fun j v hv => by
 rw [h.cell]
 rw [List.getElem?_take] at hv
 split at hv
 ·rw [List.getElem?_drop] at hv
  simpa using hv
 ·cases hv
theorem Blk.there {w : World} {g : Nat} {t : TypeId} {cs : Array Value} (h : Blk w g t cs) (o n : Nat) (hn : o + n ≤ cs.size) : w.there g o n := fun j hj => ⟨by rw [h.cell, Array.getElem?_eq_getElem (by omega)]; rfl, h.frozen _⟩
theorem results_cell1 {P : Program} {fn : Func} {tmps : Array Value} {w : World} {v : Value} (a : Nat) (t : TypeId) (hres : fn.results = #[.cell a t]) (b : Nat) (htmp : tmps.getD a undef = .pointer (some ⟨b, 0, none⟩)) (hl : (loadVar t ⟨b, 0, none⟩).run P w = .ok v w) : (results fn tmps).run P w = .ok v w := by
 unfold results
 rw [hres]
 simp only [List.mapM_toArray, List.mapM_cons, List.mapM_nil, htmp, asAddr, pure_bind]
 generalize loadVar t ⟨b, 0, none⟩ = L at hl ⊢
 simp [go_sem, hl]
theorem Blk.range21 {w : World} {g : Nat} {t : TypeId} {cs : Array Value} (h : Blk w g t cs) : w.rangeAt g 0 cs.toList := fun j v hv => by
 rw [Nat.zero_add, h.cell]
 simpa using hv
def putCs (cs : Array Value) : Nat → List Value → Array Value
 | _, [] => cs
 | o, v :: r => putCs (cs.setIfInBounds o v) (o + 1) r
theorem Blk.setCells {g : Nat} {t : TypeId} : ∀ (vs : List Value) (o : Nat) (w : World) (cs : Array Value), Blk w g t cs → Blk (w.setCells g o vs) g t (putCs cs o vs)
 | [], _, _, _, h => h
 | v :: r, o, w, cs, h => Blk.setCells r (o + 1) _ _ (h.set_ o v)
theorem turned_setCells (g : Nat) : ∀ (vs : List Value) (o : Nat) (w : World), Turned (· = g) w (w.setCells g o vs)
 | [], _, w => Turned.refl _ w
 | v :: r, o, w => Turned.trans (W := (· = g)) ((Turned.refl (· = g) w).setCell (p := ⟨g, o, none⟩) (.inl rfl) v) (turned_setCells g r (o + 1) _) (fun _ e => e) (fun _ e => .inl e)
set_option maxRecDepth 100000 in
set_option maxHeartbeats 4000000 in
theorem sameTale_any (t : TaleV) (S1 S2 : AskS) (R1 R2 : TellS) (w : World) (h1 : AskIs w t.ask S1) (h2 : AskIs w t.ask S2) (k1 : TellIs w t.tell R1) (k2 : TellIs w t.tell R2) : Calls Tryz.prog 42 #[.agg (taleC t S1 R1), .agg (taleC t S2 R2)] w (RetNew (.bool true) w) := by
 have HA := hZ (fun (w' : World) (x : Turned (fun _ => False) w w') => sameA_any t.ask S1 S2 w' (h1.fresh x) (h2.fresh x))
 have HT := hZ (fun (w' : World) (x : Turned (fun _ => False) w w') => sameTell_any t.tell R1 R2 w' (k1.fresh x) (k2.fresh x))
 clear h1 h2 k1 k2
 obtain ⟨tk, at_, ses, ⟨yk, yr, yi, yq, yd, yl, ya, yt, yn, yp, yo⟩, ⟨er, id, dy, cd, st, lots, uses⟩⟩ := t
 obtain ⟨⟨xPA, xPn, xPc⟩, ⟨xQA, xQn, xQc⟩⟩ := S1
 obtain ⟨⟨yPA, yPn, yPc⟩, ⟨yQA, yQn, yQc⟩⟩ := S2
 obtain ⟨⟨xLA, xLn, xLc⟩, ⟨xUA, xUn, xUc⟩⟩ := R1
 obtain ⟨⟨yLA, yLn, yLc⟩, ⟨yUA, yUn, yUc⟩⟩ := R2
 unfold taleC strV
 unfold askC strV at HA
 unfold tellC strV at HT
 simp only at HA HT ⊢
 have A1 := hZ ((Blk.new w 44 #[.int .u8 tk, .int .i64 at_, .int .i64 ses, .int .u8 yk, .int .i64 yr, .string ⟨yi.toArray⟩, .int .i64 yq, .int .i64 yd, .int .i64 yl, .int .i64 ya, .int .i64 yt, .int .i64 yn, .slice xPA xPn xPc, .slice xQA xQn xQc, .int .i64 er, .int .i64 id, .int .i64 dy, .string ⟨cd.toArray⟩, .int .u8 st, .slice xLA xLn xLc, .slice xUA xUn xUc]).alloc (.cells #[.int .u8 tk, .int .i64 at_, .int .i64 ses, .int .u8 yk, .int .i64 yr, .string ⟨yi.toArray⟩, .int .i64 yq, .int .i64 yd, .int .i64 yl, .int .i64 ya, .int .i64 yt, .int .i64 yn, .slice yPA yPn yPc, .slice yQA yQn yQc, .int .i64 er, .int .i64 id, .int .i64 dy, .string ⟨cd.toArray⟩, .int .u8 st, .slice yLA yLn yLc, .slice yUA yUn yUc] 44))
 have A2 := hZ (Blk.new_at (k := w.heap.size + 1) (w.alloc (.cells #[.int .u8 tk, .int .i64 at_, .int .i64 ses, .int .u8 yk, .int .i64 yr, .string ⟨yi.toArray⟩, .int .i64 yq, .int .i64 yd, .int .i64 yl, .int .i64 ya, .int .i64 yt, .int .i64 yn, .slice xPA xPn xPc, .slice xQA xQn xQc, .int .i64 er, .int .i64 id, .int .i64 dy, .string ⟨cd.toArray⟩, .int .u8 st, .slice xLA xLn xLc, .slice xUA xUn xUc] 44)) 44 #[.int .u8 tk, .int .i64 at_, .int .i64 ses, .int .u8 yk, .int .i64 yr, .string ⟨yi.toArray⟩, .int .i64 yq, .int .i64 yd, .int .i64 yl, .int .i64 ya, .int .i64 yt, .int .i64 yn, .slice yPA yPn yPc, .slice yQA yQn yQc, .int .i64 er, .int .i64 id, .int .i64 dy, .string ⟨cd.toArray⟩, .int .u8 st, .slice yLA yLn yLc, .slice yUA yUn yUc] (by simp))
 have T0 := hZ (((Turned.refl (fun _ => False) w).alloc (.cells #[.int .u8 tk, .int .i64 at_, .int .i64 ses, .int .u8 yk, .int .i64 yr, .string ⟨yi.toArray⟩, .int .i64 yq, .int .i64 yd, .int .i64 yl, .int .i64 ya, .int .i64 yt, .int .i64 yn, .slice xPA xPn xPc, .slice xQA xQn xQc, .int .i64 er, .int .i64 id, .int .i64 dy, .string ⟨cd.toArray⟩, .int .u8 st, .slice xLA xLn xLc, .slice xUA xUn xUc] 44)).alloc (.cells #[.int .u8 tk, .int .i64 at_, .int .i64 ses, .int .u8 yk, .int .i64 yr, .string ⟨yi.toArray⟩, .int .i64 yq, .int .i64 yd, .int .i64 yl, .int .i64 ya, .int .i64 yt, .int .i64 yn, .slice yPA yPn yPc, .slice yQA yQn yQc, .int .i64 er, .int .i64 id, .int .i64 dy, .string ⟨cd.toArray⟩, .int .u8 st, .slice yLA yLn yLc, .slice yUA yUn yUc] 44))
 go_enter Tryz.func42, Tryz.ntmps42
 go_upto_region 1 with fail
 generalize (w.alloc (.cells #[.int .u8 tk, .int .i64 at_, .int .i64 ses, .int .u8 yk, .int .i64 yr, .string ⟨yi.toArray⟩, .int .i64 yq, .int .i64 yd, .int .i64 yl, .int .i64 ya, .int .i64 yt, .int .i64 yn, .slice xPA xPn xPc, .slice xQA xQn xQc, .int .i64 er, .int .i64 id, .int .i64 dy, .string ⟨cd.toArray⟩, .int .u8 st, .slice xLA xLn xLc, .slice xUA xUn xUc] 44)).alloc (.cells #[.int .u8 tk, .int .i64 at_, .int .i64 ses, .int .u8 yk, .int .i64 yr, .string ⟨yi.toArray⟩, .int .i64 yq, .int .i64 yd, .int .i64 yl, .int .i64 ya, .int .i64 yt, .int .i64 yn, .slice yPA yPn yPc, .slice yQA yQn yQc, .int .i64 er, .int .i64 id, .int .i64 dy, .string ⟨cd.toArray⟩, .int .u8 st, .slice yLA yLn yLc, .slice yUA yUn yUc] 44) = w0 at *
 generalize w.heap.size + 1 = b2 at *
 generalize w.heap.size = b1 at *
 obtain ⟨c0, c1, c2, c3, c4, c5, c6, c7, c8, c9, c10, c11, c12, c13, c14, c15, c16, c17, c18, c19, c20⟩ := A1.out.cells21
 obtain ⟨d0, d1, d2, d3, d4, d5, d6, d7, d8, d9, d10, d11, d12, d13, d14, d15, d16, d17, d18, d19, d20⟩ := A2.out.cells21
 go_wp2_with fail
 refine (HA.out w0 T0.out).mono ?_
 rintro e w2 ⟨rfl, t2⟩
 have T2 := hZ (T0.out.and_ t2)
 clear c0 c1 c2 c3 c4 c5 c6 c7 c8 c9 c10 c11 c12 c13 c14 c15 c16 c17 c18 c19 c20 d0 d1 d2 d3 d4 d5 d6 d7 d8 d9 d10 d11 d12 d13 d14 d15 d16 d17 d18 d19 d20
 obtain ⟨c0, c1, c2, c3, c4, c5, c6, c7, c8, c9, c10, c11, c12, c13, c14, c15, c16, c17, c18, c19, c20⟩ := (A1.out.turned t2 (fun e => e)).cells21
 obtain ⟨d0, d1, d2, d3, d4, d5, d6, d7, d8, d9, d10, d11, d12, d13, d14, d15, d16, d17, d18, d19, d20⟩ := (A2.out.turned t2 (fun e => e)).cells21
 clear t2 T0 A1 A2 HA
 go_wp2_with fail
 refine (HT.out _ T2.out).mono ?_
 rintro e w3 ⟨rfl, t3⟩
 have T3 := hZ (T2.out.and_ t3)
 clear t3 T2
 go_wp2_with fail
 go_ret
 exact ⟨rfl, T3.out⟩
def LentTaP (t : TaleV) (S : AskS) (R : TellS) (w : World) (e : Ending) (w' : World) : Prop :=
 ∃ gq gx gl gu, e = .returned (.agg (taleC t (lentS S gq gx) (lentT R gl gu))) ∧ LentIs w' w.heap.size t.ask S gq gx ∧ LentTI w' w.heap.size t.tell R gl gu ∧ Turned (fun _ => False) w w'
set_option maxRecDepth 100000 in
set_option maxHeartbeats 4000000 in
theorem lentTale_any (t : TaleV) (S : AskS) (R : TellS) (w : World) (h : AskIs w t.ask S) (k : TellIs w t.tell R) (hs : SmallS S) (ks : SmallT R) : Calls Tryz.prog 13 #[.agg (taleC t S R)] w (LentTaP t S R w) := by
 have HA := hZ (fun (w' : World) (x : Turned (fun _ => False) w w') => lentA_any t.ask S w' (h.fresh x) hs)
 have HT := hZ (fun (w' : World) (x : Turned (fun _ => False) w w') => lentTell_any t.tell R w' (k.fresh x) ks)
 clear h k hs ks
 obtain ⟨tk, at_, ses, ⟨yk, yr, yi, yq, yd, yl, ya, yt, yn, yp, yo⟩, ⟨er, id, dy, cd, st, lots, uses⟩⟩ := t
 obtain ⟨⟨PA, Pn, Pc⟩, ⟨QA, Qn, Qc⟩⟩ := S
 obtain ⟨⟨LA, Ln, Lc⟩, ⟨UA, Un, Uc⟩⟩ := R
 unfold taleC strV
 unfold askC strV at HA
 unfold tellC strV at HT
 simp only at HA HT ⊢
 have A1 := hZ ((Blk.new w 44 #[.int .u8 tk, .int .i64 at_, .int .i64 ses, .int .u8 yk, .int .i64 yr, .string ⟨yi.toArray⟩, .int .i64 yq, .int .i64 yd, .int .i64 yl, .int .i64 ya, .int .i64 yt, .int .i64 yn, .slice PA Pn Pc, .slice QA Qn Qc, .int .i64 er, .int .i64 id, .int .i64 dy, .string ⟨cd.toArray⟩, .int .u8 st, .slice LA Ln Lc, .slice UA Un Uc]).alloc (.cells #[.int .u8 0, .int .i64 0, .int .i64 0, .int .u8 0, .int .i64 0, .string ⟨#[]⟩, .int .i64 0, .int .i64 0, .int .i64 0, .int .i64 0, .int .i64 0, .int .i64 0, .slice none 0 0, .slice none 0 0, .int .i64 0, .int .i64 0, .int .i64 0, .string ⟨#[]⟩, .int .u8 0, .slice none 0 0, .slice none 0 0] 44))
 have A2 := hZ (Blk.new_at (k := w.heap.size + 1) (w.alloc (.cells #[.int .u8 tk, .int .i64 at_, .int .i64 ses, .int .u8 yk, .int .i64 yr, .string ⟨yi.toArray⟩, .int .i64 yq, .int .i64 yd, .int .i64 yl, .int .i64 ya, .int .i64 yt, .int .i64 yn, .slice PA Pn Pc, .slice QA Qn Qc, .int .i64 er, .int .i64 id, .int .i64 dy, .string ⟨cd.toArray⟩, .int .u8 st, .slice LA Ln Lc, .slice UA Un Uc] 44)) 44 #[.int .u8 0, .int .i64 0, .int .i64 0, .int .u8 0, .int .i64 0, .string ⟨#[]⟩, .int .i64 0, .int .i64 0, .int .i64 0, .int .i64 0, .int .i64 0, .int .i64 0, .slice none 0 0, .slice none 0 0, .int .i64 0, .int .i64 0, .int .i64 0, .string ⟨#[]⟩, .int .u8 0, .slice none 0 0, .slice none 0 0] (by simp))
 have T0 := hZ (((Turned.refl (fun _ => False) w).alloc (.cells #[.int .u8 tk, .int .i64 at_, .int .i64 ses, .int .u8 yk, .int .i64 yr, .string ⟨yi.toArray⟩, .int .i64 yq, .int .i64 yd, .int .i64 yl, .int .i64 ya, .int .i64 yt, .int .i64 yn, .slice PA Pn Pc, .slice QA Qn Qc, .int .i64 er, .int .i64 id, .int .i64 dy, .string ⟨cd.toArray⟩, .int .u8 st, .slice LA Ln Lc, .slice UA Un Uc] 44)).alloc (.cells #[.int .u8 0, .int .i64 0, .int .i64 0, .int .u8 0, .int .i64 0, .string ⟨#[]⟩, .int .i64 0, .int .i64 0, .int .i64 0, .int .i64 0, .int .i64 0, .int .i64 0, .slice none 0 0, .slice none 0 0, .int .i64 0, .int .i64 0, .int .i64 0, .string ⟨#[]⟩, .int .u8 0, .slice none 0 0, .slice none 0 0] 44))
 go_enter Tryz.func13, Tryz.ntmps13
 go_upto_region 1 with fail
 generalize (w.alloc (.cells #[.int .u8 tk, .int .i64 at_, .int .i64 ses, .int .u8 yk, .int .i64 yr, .string ⟨yi.toArray⟩, .int .i64 yq, .int .i64 yd, .int .i64 yl, .int .i64 ya, .int .i64 yt, .int .i64 yn, .slice PA Pn Pc, .slice QA Qn Qc, .int .i64 er, .int .i64 id, .int .i64 dy, .string ⟨cd.toArray⟩, .int .u8 st, .slice LA Ln Lc, .slice UA Un Uc] 44)).alloc (.cells #[.int .u8 0, .int .i64 0, .int .i64 0, .int .u8 0, .int .i64 0, .string ⟨#[]⟩, .int .i64 0, .int .i64 0, .int .i64 0, .int .i64 0, .int .i64 0, .int .i64 0, .slice none 0 0, .slice none 0 0, .int .i64 0, .int .i64 0, .int .i64 0, .string ⟨#[]⟩, .int .u8 0, .slice none 0 0, .slice none 0 0] 44) = w0 at *
 obtain ⟨bx, hbx0⟩ : ∃ bx, bx = w.heap.size := ⟨_, rfl⟩
 obtain ⟨bz, hbz0⟩ : ∃ bz, bz = w.heap.size + 1 := ⟨_, rfl⟩
 rw [← hbz0] at A2 ⊢
 rw [← hbx0] at A1 ⊢
 have hne : ¬ bx = bz := by omega
 have hne2 : ¬ bz = bx := by omega
 have hbx1 : w.heap.size ≤ bx := by omega
 have hbz1 : w.heap.size ≤ bz := by omega
 have hbxz : bx < bz := by omega
 clear hbx0 hbz0
 have r1 : w0.rangeAt bx 3 [.int .u8 yk, .int .i64 yr, .string ⟨yi.toArray⟩, .int .i64 yq, .int .i64 yd, .int .i64 yl, .int .i64 ya, .int .i64 yt, .int .i64 yn, .slice PA Pn Pc, .slice QA Qn Qc] := A1.out.rangeM 3 11
 go_wp2_with (refine wpList_load_mid rfl 28 _ rfl bx 3 rfl [.int .u8 yk, .int .i64 yr, .string ⟨yi.toArray⟩, .int .i64 yq, .int .i64 yd, .int .i64 yl, .int .i64 ya, .int .i64 yt, .int .i64 yn, .slice PA Pn Pc, .slice QA Qn Qc] _ r1 Tryz.underlying28 rfl (by kernel_rfl) ?_)
 refine (HA.out w0 T0.out).mono ?_
 rintro e w1 ⟨gq, gx, rfl, hLA, t1⟩
 unfold askC lentS strV
 simp only
 have T1 := hZ (T0.out.and_ t1)
 have B1 := A1.out.turned t1 (fun e => e)
 have B2 := A2.out.turned t1 (fun e => e)
 have h1 := B1.there 3 11 (by simp)
 have tS := turned_setCells bx [.int .u8 yk, .int .i64 yr, .string ⟨yi.toArray⟩, .int .i64 yq, .int .i64 yd, .int .i64 yl, .int .i64 ya, .int .i64 yt, .int .i64 yn, .slice (some ⟨gq, 0, none⟩) Pn (Pn + 12), .slice (some ⟨gx, 0, none⟩) Qn (Qn + 12)] 3 w1
 have C1 : Blk (w1.setCells bx 3 [.int .u8 yk, .int .i64 yr, .string ⟨yi.toArray⟩, .int .i64 yq, .int .i64 yd, .int .i64 yl, .int .i64 ya, .int .i64 yt, .int .i64 yn, .slice (some ⟨gq, 0, none⟩) Pn (Pn + 12), .slice (some ⟨gx, 0, none⟩) Qn (Qn + 12)]) bx 44 #[.int .u8 tk, .int .i64 at_, .int .i64 ses, .int .u8 yk, .int .i64 yr, .string ⟨yi.toArray⟩, .int .i64 yq, .int .i64 yd, .int .i64 yl, .int .i64 ya, .int .i64 yt, .int .i64 yn, .slice (some ⟨gq, 0, none⟩) Pn (Pn + 12), .slice (some ⟨gx, 0, none⟩) Qn (Qn + 12), .int .i64 er, .int .i64 id, .int .i64 dy, .string ⟨cd.toArray⟩, .int .u8 st, .slice LA Ln Lc, .slice UA Un Uc] := by
  have := Blk.setCells [.int .u8 yk, .int .i64 yr, .string ⟨yi.toArray⟩, .int .i64 yq, .int .i64 yd, .int .i64 yl, .int .i64 ya, .int .i64 yt, .int .i64 yn, .slice (some ⟨gq, 0, none⟩) Pn (Pn + 12), .slice (some ⟨gx, 0, none⟩) Qn (Qn + 12)] 3 w1 _ B1
  simp only [putCs, zA, zB, zC, Nat.reduceAdd] at this
  exact this
 have C2 := B2.turned tS (fun e => hne2 e)
 have hz0 : w0.heap.size ≤ gq := hLA.b0
 have hlt0 : bz < w0.heap.size := A2.out.lt
 have LA1 := hZ (show LentIs (w1.setCells bx 3 [.int .u8 yk, .int .i64 yr, .string ⟨yi.toArray⟩, .int .i64 yq, .int .i64 yd, .int .i64 yl, .int .i64 ya, .int .i64 yt, .int .i64 yn, .slice (some ⟨gq, 0, none⟩) Pn (Pn + 12), .slice (some ⟨gx, 0, none⟩) Qn (Qn + 12)]) w0.heap.size ⟨yk, yr, yi, yq, yd, yl, ya, yt, yn, yp, yo⟩ ⟨⟨PA, Pn, Pc⟩, ⟨QA, Qn, Qc⟩⟩ gq gx from ⟨hLA.q.turned tS (fun e => by omega), hLA.x.turned tS (fun e => by have := hLA.b1; omega), hLA.b0, hLA.b1⟩)
 have T2 := hZ (T1.out.trans (W := fun _ => False) tS (fun _ e => e) (fun i e => .inr (by omega)))
 have y14 := C1.cell 14
 have y15 := C1.cell 15
 have y16 := C1.cell 16
 have y17 := C1.cell 17
 have y18 := C1.cell 18
 have y19 := C1.cell 19
 have y20 := C1.cell 20
 simp only [List.getElem?_toArray, zJ, zI] at y14 y15 y16 y17 y18 y19 y20
 clear r1 t1 T1 hLA T0 HA B1 B2 tS
 have C1 := hZ C1
 have C2 := hZ C2
 go_wp2_with (refine wpList_store_mid rfl 28 _ _ rfl bx 3 _ rfl rfl ?_ ?_ ?_ ?_; { exact h1 }; { kernel_rfl }; { rw [List.all_toArray]; rfl }; (try simp only [List.toList_toArray]); generalize w1.setCells bx 3 [.int .u8 yk, .int .i64 yr, .string ⟨yi.toArray⟩, .int .i64 yq, .int .i64 yd, .int .i64 yl, .int .i64 ya, .int .i64 yt, .int .i64 yn, .slice (some ⟨gq, 0, none⟩) Pn (Pn + 12), .slice (some ⟨gx, 0, none⟩) Qn (Qn + 12)] = w2 at *)
 clear y14 y15 y16 y17 y18 y19 y20
 refine (HT.out _ T2.out).mono ?_
 rintro e w3 ⟨gl, gu, rfl, hLT, t3⟩
 unfold tellC lentT strV
 simp only
 have T3 := hZ (T2.out.and_ t3)
 have B1 := C1.out.turned t3 (fun e => e)
 have B2 := C2.out.turned t3 (fun e => e)
 have LA3 := LA1.out.fresh t3
 have h3 := B1.there 14 7 (by simp)
 have tS := turned_setCells bx [.int .i64 er, .int .i64 id, .int .i64 dy, .string ⟨cd.toArray⟩, .int .u8 st, .slice (some ⟨gl, 0, none⟩) Ln (Ln + 12), .slice (some ⟨gu, 0, none⟩) Un (Un + 12)] 14 w3
 have D1 : Blk (w3.setCells bx 14 [.int .i64 er, .int .i64 id, .int .i64 dy, .string ⟨cd.toArray⟩, .int .u8 st, .slice (some ⟨gl, 0, none⟩) Ln (Ln + 12), .slice (some ⟨gu, 0, none⟩) Un (Un + 12)]) bx 44 #[.int .u8 tk, .int .i64 at_, .int .i64 ses, .int .u8 yk, .int .i64 yr, .string ⟨yi.toArray⟩, .int .i64 yq, .int .i64 yd, .int .i64 yl, .int .i64 ya, .int .i64 yt, .int .i64 yn, .slice (some ⟨gq, 0, none⟩) Pn (Pn + 12), .slice (some ⟨gx, 0, none⟩) Qn (Qn + 12), .int .i64 er, .int .i64 id, .int .i64 dy, .string ⟨cd.toArray⟩, .int .u8 st, .slice (some ⟨gl, 0, none⟩) Ln (Ln + 12), .slice (some ⟨gu, 0, none⟩) Un (Un + 12)] := by
  have := Blk.setCells [.int .i64 er, .int .i64 id, .int .i64 dy, .string ⟨cd.toArray⟩, .int .u8 st, .slice (some ⟨gl, 0, none⟩) Ln (Ln + 12), .slice (some ⟨gu, 0, none⟩) Un (Un + 12)] 14 w3 _ B1
  simp only [putCs, zA, zB, zC, Nat.reduceAdd] at this
  exact this
 have D2 := B2.turned tS (fun e => hne2 e)
 have hz2 : bz < gl := Nat.lt_of_lt_of_le C2.out.lt hLT.b0
 have LA4 : LentIs (w3.setCells bx 14 [.int .i64 er, .int .i64 id, .int .i64 dy, .string ⟨cd.toArray⟩, .int .u8 st, .slice (some ⟨gl, 0, none⟩) Ln (Ln + 12), .slice (some ⟨gu, 0, none⟩) Un (Un + 12)]) w0.heap.size ⟨yk, yr, yi, yq, yd, yl, ya, yt, yn, yp, yo⟩ ⟨⟨PA, Pn, Pc⟩, ⟨QA, Qn, Qc⟩⟩ gq gx := ⟨LA3.q.turned tS (fun e => by omega), LA3.x.turned tS (fun e => by have := LA3.b1; omega), LA3.b0, LA3.b1⟩
 have LT4 : LentTI (w3.setCells bx 14 [.int .i64 er, .int .i64 id, .int .i64 dy, .string ⟨cd.toArray⟩, .int .u8 st, .slice (some ⟨gl, 0, none⟩) Ln (Ln + 12), .slice (some ⟨gu, 0, none⟩) Un (Un + 12)]) w2.heap.size ⟨er, id, dy, cd, st, lots, uses⟩ ⟨⟨LA, Ln, Lc⟩, ⟨UA, Un, Uc⟩⟩ gl gu := ⟨hLT.l.turned tS (fun e => by omega), hLT.u.turned tS (fun e => by have := hLT.b1; omega), hLT.b0, hLT.b1⟩
 have T4 := T3.out.trans (W := fun _ => False) tS (fun _ e => e) (fun i e => .inr (by omega))
 have r4 := D1.range21
 have h4 := D2.there 0 21 (by simp)
 have tZ := turned_setCells bz [.int .u8 tk, .int .i64 at_, .int .i64 ses, .int .u8 yk, .int .i64 yr, .string ⟨yi.toArray⟩, .int .i64 yq, .int .i64 yd, .int .i64 yl, .int .i64 ya, .int .i64 yt, .int .i64 yn, .slice (some ⟨gq, 0, none⟩) Pn (Pn + 12), .slice (some ⟨gx, 0, none⟩) Qn (Qn + 12), .int .i64 er, .int .i64 id, .int .i64 dy, .string ⟨cd.toArray⟩, .int .u8 st, .slice (some ⟨gl, 0, none⟩) Ln (Ln + 12), .slice (some ⟨gu, 0, none⟩) Un (Un + 12)] 0 (w3.setCells bx 14 [.int .i64 er, .int .i64 id, .int .i64 dy, .string ⟨cd.toArray⟩, .int .u8 st, .slice (some ⟨gl, 0, none⟩) Ln (Ln + 12), .slice (some ⟨gu, 0, none⟩) Un (Un + 12)])
 have E2 : Blk ((w3.setCells bx 14 [.int .i64 er, .int .i64 id, .int .i64 dy, .string ⟨cd.toArray⟩, .int .u8 st, .slice (some ⟨gl, 0, none⟩) Ln (Ln + 12), .slice (some ⟨gu, 0, none⟩) Un (Un + 12)]).setCells bz 0 [.int .u8 tk, .int .i64 at_, .int .i64 ses, .int .u8 yk, .int .i64 yr, .string ⟨yi.toArray⟩, .int .i64 yq, .int .i64 yd, .int .i64 yl, .int .i64 ya, .int .i64 yt, .int .i64 yn, .slice (some ⟨gq, 0, none⟩) Pn (Pn + 12), .slice (some ⟨gx, 0, none⟩) Qn (Qn + 12), .int .i64 er, .int .i64 id, .int .i64 dy, .string ⟨cd.toArray⟩, .int .u8 st, .slice (some ⟨gl, 0, none⟩) Ln (Ln + 12), .slice (some ⟨gu, 0, none⟩) Un (Un + 12)]) bz 44 #[.int .u8 tk, .int .i64 at_, .int .i64 ses, .int .u8 yk, .int .i64 yr, .string ⟨yi.toArray⟩, .int .i64 yq, .int .i64 yd, .int .i64 yl, .int .i64 ya, .int .i64 yt, .int .i64 yn, .slice (some ⟨gq, 0, none⟩) Pn (Pn + 12), .slice (some ⟨gx, 0, none⟩) Qn (Qn + 12), .int .i64 er, .int .i64 id, .int .i64 dy, .string ⟨cd.toArray⟩, .int .u8 st, .slice (some ⟨gl, 0, none⟩) Ln (Ln + 12), .slice (some ⟨gu, 0, none⟩) Un (Un + 12)] := by
  have := Blk.setCells [.int .u8 tk, .int .i64 at_, .int .i64 ses, .int .u8 yk, .int .i64 yr, .string ⟨yi.toArray⟩, .int .i64 yq, .int .i64 yd, .int .i64 yl, .int .i64 ya, .int .i64 yt, .int .i64 yn, .slice (some ⟨gq, 0, none⟩) Pn (Pn + 12), .slice (some ⟨gx, 0, none⟩) Qn (Qn + 12), .int .i64 er, .int .i64 id, .int .i64 dy, .string ⟨cd.toArray⟩, .int .u8 st, .slice (some ⟨gl, 0, none⟩) Ln (Ln + 12), .slice (some ⟨gu, 0, none⟩) Un (Un + 12)] 0 _ _ D2
  simp only [putCs, zA, zB, zC, Nat.reduceAdd] at this
  exact this
 have LA5 : LentIs ((w3.setCells bx 14 [.int .i64 er, .int .i64 id, .int .i64 dy, .string ⟨cd.toArray⟩, .int .u8 st, .slice (some ⟨gl, 0, none⟩) Ln (Ln + 12), .slice (some ⟨gu, 0, none⟩) Un (Un + 12)]).setCells bz 0 [.int .u8 tk, .int .i64 at_, .int .i64 ses, .int .u8 yk, .int .i64 yr, .string ⟨yi.toArray⟩, .int .i64 yq, .int .i64 yd, .int .i64 yl, .int .i64 ya, .int .i64 yt, .int .i64 yn, .slice (some ⟨gq, 0, none⟩) Pn (Pn + 12), .slice (some ⟨gx, 0, none⟩) Qn (Qn + 12), .int .i64 er, .int .i64 id, .int .i64 dy, .string ⟨cd.toArray⟩, .int .u8 st, .slice (some ⟨gl, 0, none⟩) Ln (Ln + 12), .slice (some ⟨gu, 0, none⟩) Un (Un + 12)]) w.heap.size ⟨yk, yr, yi, yq, yd, yl, ya, yt, yn, yp, yo⟩ ⟨⟨PA, Pn, Pc⟩, ⟨QA, Qn, Qc⟩⟩ gq gx := ⟨LA4.q.turned tZ (fun e => by omega), LA4.x.turned tZ (fun e => by have := LA4.b1; omega), by omega, LA4.b1⟩
 have LT5 : LentTI ((w3.setCells bx 14 [.int .i64 er, .int .i64 id, .int .i64 dy, .string ⟨cd.toArray⟩, .int .u8 st, .slice (some ⟨gl, 0, none⟩) Ln (Ln + 12), .slice (some ⟨gu, 0, none⟩) Un (Un + 12)]).setCells bz 0 [.int .u8 tk, .int .i64 at_, .int .i64 ses, .int .u8 yk, .int .i64 yr, .string ⟨yi.toArray⟩, .int .i64 yq, .int .i64 yd, .int .i64 yl, .int .i64 ya, .int .i64 yt, .int .i64 yn, .slice (some ⟨gq, 0, none⟩) Pn (Pn + 12), .slice (some ⟨gx, 0, none⟩) Qn (Qn + 12), .int .i64 er, .int .i64 id, .int .i64 dy, .string ⟨cd.toArray⟩, .int .u8 st, .slice (some ⟨gl, 0, none⟩) Ln (Ln + 12), .slice (some ⟨gu, 0, none⟩) Un (Un + 12)]) w.heap.size ⟨er, id, dy, cd, st, lots, uses⟩ ⟨⟨LA, Ln, Lc⟩, ⟨UA, Un, Uc⟩⟩ gl gu := ⟨LT4.l.turned tZ (fun e => by omega), LT4.u.turned tZ (fun e => by have := LT4.b1; omega), by omega, LT4.b1⟩
 have T5 := T4.trans (W := fun _ => False) tZ (fun _ e => e) (fun i e => .inr (by omega))
 have E2 := hZ E2
 have LA5 := hZ LA5
 have LT5 := hZ LT5
 have T5 := hZ T5
 clear C1 C2 T2 T3 t3 B1 B2 LA1 LA3 LA4 LT4 T4 tS tZ D1 D2 hLT HT
 go_upto_region 3 with (refine wpList_store_mid rfl 42 _ _ rfl bx 14 _ rfl rfl ?_ ?_ ?_ ?_; { exact h3 }; { kernel_rfl }; { rw [List.all_toArray]; rfl }; (try simp only [List.toList_toArray]); generalize w3.setCells bx 14 [.int .i64 er, .int .i64 id, .int .i64 dy, .string ⟨cd.toArray⟩, .int .u8 st, .slice (some ⟨gl, 0, none⟩) Ln (Ln + 12), .slice (some ⟨gu, 0, none⟩) Un (Un + 12)] = w4 at *)
 go_wp2_with (first
  | (refine wpList_load_mid rfl 44 _ rfl bx 0 rfl [.int .u8 tk, .int .i64 at_, .int .i64 ses, .int .u8 yk, .int .i64 yr, .string ⟨yi.toArray⟩, .int .i64 yq, .int .i64 yd, .int .i64 yl, .int .i64 ya, .int .i64 yt, .int .i64 yn, .slice (some ⟨gq, 0, none⟩) Pn (Pn + 12), .slice (some ⟨gx, 0, none⟩) Qn (Qn + 12), .int .i64 er, .int .i64 id, .int .i64 dy, .string ⟨cd.toArray⟩, .int .u8 st, .slice (some ⟨gl, 0, none⟩) Ln (Ln + 12), .slice (some ⟨gu, 0, none⟩) Un (Un + 12)] _ r4 Tryz.underlying44 rfl (by kernel_rfl) ?_)
  | (refine wpList_store_mid rfl 44 _ _ rfl bz 0 _ rfl rfl ?_ ?_ ?_ ?_; { exact h4 }; { kernel_rfl }; { rw [List.all_toArray]; rfl }; (try simp only [List.toList_toArray]); generalize w4.setCells bz 0 [.int .u8 tk, .int .i64 at_, .int .i64 ses, .int .u8 yk, .int .i64 yr, .string ⟨yi.toArray⟩, .int .i64 yq, .int .i64 yd, .int .i64 yl, .int .i64 ya, .int .i64 yt, .int .i64 yn, .slice (some ⟨gq, 0, none⟩) Pn (Pn + 12), .slice (some ⟨gx, 0, none⟩) Qn (Qn + 12), .int .i64 er, .int .i64 id, .int .i64 dy, .string ⟨cd.toArray⟩, .int .u8 st, .slice (some ⟨gl, 0, none⟩) Ln (Ln + 12), .slice (some ⟨gu, 0, none⟩) Un (Un + 12)] = w5 at *))
 refine bodyPost_ret (results_cell1 2 44 rfl bz rfl (run_loadVar_mid w5 bz 0 44 [.int .u8 tk, .int .i64 at_, .int .i64 ses, .int .u8 yk, .int .i64 yr, .string ⟨yi.toArray⟩, .int .i64 yq, .int .i64 yd, .int .i64 yl, .int .i64 ya, .int .i64 yt, .int .i64 yn, .slice (some ⟨gq, 0, none⟩) Pn (Pn + 12), .slice (some ⟨gx, 0, none⟩) Qn (Qn + 12), .int .i64 er, .int .i64 id, .int .i64 dy, .string ⟨cd.toArray⟩, .int .u8 st, .slice (some ⟨gl, 0, none⟩) Ln (Ln + 12), .slice (some ⟨gu, 0, none⟩) Un (Un + 12)] _ E2.out.range21 Tryz.underlying44 rfl (by kernel_rfl))) rfl ?_
 exact ⟨gq, gx, gl, gu, rfl, LA5.out, LT5.out, T5.out⟩
set_option maxRecDepth 100000 in
set_option maxHeartbeats 4000000 in
theorem keptTale_any (t : TaleV) (S : AskS) (R : TellS) (gq gx gl gu B B' : Nat) (w : World) (h : AskIs w t.ask S) (k : TellIs w t.tell R) (hl : LentIs w B t.ask S gq gx) (kl : LentTI w B' t.tell R gl gu) (hs : SmallS S) (ks : SmallT R) :
  Calls Tryz.prog 16 #[.agg (taleC t (lentS S gq gx) (lentT R gl gu)), .agg (taleC t S R)] w (RetNew (.bool true) w) := by
 have HS := hZ (fun (w' : World) (x : Turned (fun _ => False) w w') => sameTale_any t (lentS S gq gx) S (lentT R gl gu) R w' ((hl.fresh x).is h hs) (h.fresh x) ((kl.fresh x).is k ks) (k.fresh x))
 have HA := hZ (fun (w' : World) (x : Turned (fun _ => False) w w') => keptA_any t.ask S gq gx B w' (h.fresh x) (hl.fresh x) hs)
 have HT := hZ (fun (w' : World) (x : Turned (fun _ => False) w w') => keptTell_any t.tell R gl gu B' w' (k.fresh x) (kl.fresh x) ks)
 clear h k hl kl hs ks
 obtain ⟨tk, at_, ses, ⟨yk, yr, yi, yq, yd, yl, ya, yt, yn, yp, yo⟩, ⟨er, id, dy, cd, st, lots, uses⟩⟩ := t
 obtain ⟨⟨PA, Pn, Pc⟩, ⟨QA, Qn, Qc⟩⟩ := S
 obtain ⟨⟨LA, Ln, Lc⟩, ⟨UA, Un, Uc⟩⟩ := R
 unfold taleC lentS lentT strV at HS ⊢
 unfold askC lentS strV at HA
 unfold tellC lentT strV at HT
 simp only at HS HA HT ⊢
 have A1 := hZ ((Blk.new w 44 #[.int .u8 tk, .int .i64 at_, .int .i64 ses, .int .u8 yk, .int .i64 yr, .string ⟨yi.toArray⟩, .int .i64 yq, .int .i64 yd, .int .i64 yl, .int .i64 ya, .int .i64 yt, .int .i64 yn, .slice (some ⟨gq, 0, none⟩) Pn (Pn + 12), .slice (some ⟨gx, 0, none⟩) Qn (Qn + 12), .int .i64 er, .int .i64 id, .int .i64 dy, .string ⟨cd.toArray⟩, .int .u8 st, .slice (some ⟨gl, 0, none⟩) Ln (Ln + 12), .slice (some ⟨gu, 0, none⟩) Un (Un + 12)]).alloc (.cells #[.int .u8 tk, .int .i64 at_, .int .i64 ses, .int .u8 yk, .int .i64 yr, .string ⟨yi.toArray⟩, .int .i64 yq, .int .i64 yd, .int .i64 yl, .int .i64 ya, .int .i64 yt, .int .i64 yn, .slice PA Pn Pc, .slice QA Qn Qc, .int .i64 er, .int .i64 id, .int .i64 dy, .string ⟨cd.toArray⟩, .int .u8 st, .slice LA Ln Lc, .slice UA Un Uc] 44))
 have A2 := hZ (Blk.new_at (k := w.heap.size + 1) (w.alloc (.cells #[.int .u8 tk, .int .i64 at_, .int .i64 ses, .int .u8 yk, .int .i64 yr, .string ⟨yi.toArray⟩, .int .i64 yq, .int .i64 yd, .int .i64 yl, .int .i64 ya, .int .i64 yt, .int .i64 yn, .slice (some ⟨gq, 0, none⟩) Pn (Pn + 12), .slice (some ⟨gx, 0, none⟩) Qn (Qn + 12), .int .i64 er, .int .i64 id, .int .i64 dy, .string ⟨cd.toArray⟩, .int .u8 st, .slice (some ⟨gl, 0, none⟩) Ln (Ln + 12), .slice (some ⟨gu, 0, none⟩) Un (Un + 12)] 44)) 44 #[.int .u8 tk, .int .i64 at_, .int .i64 ses, .int .u8 yk, .int .i64 yr, .string ⟨yi.toArray⟩, .int .i64 yq, .int .i64 yd, .int .i64 yl, .int .i64 ya, .int .i64 yt, .int .i64 yn, .slice PA Pn Pc, .slice QA Qn Qc, .int .i64 er, .int .i64 id, .int .i64 dy, .string ⟨cd.toArray⟩, .int .u8 st, .slice LA Ln Lc, .slice UA Un Uc] (by simp))
 have T0 := hZ (((Turned.refl (fun _ => False) w).alloc (.cells #[.int .u8 tk, .int .i64 at_, .int .i64 ses, .int .u8 yk, .int .i64 yr, .string ⟨yi.toArray⟩, .int .i64 yq, .int .i64 yd, .int .i64 yl, .int .i64 ya, .int .i64 yt, .int .i64 yn, .slice (some ⟨gq, 0, none⟩) Pn (Pn + 12), .slice (some ⟨gx, 0, none⟩) Qn (Qn + 12), .int .i64 er, .int .i64 id, .int .i64 dy, .string ⟨cd.toArray⟩, .int .u8 st, .slice (some ⟨gl, 0, none⟩) Ln (Ln + 12), .slice (some ⟨gu, 0, none⟩) Un (Un + 12)] 44)).alloc (.cells #[.int .u8 tk, .int .i64 at_, .int .i64 ses, .int .u8 yk, .int .i64 yr, .string ⟨yi.toArray⟩, .int .i64 yq, .int .i64 yd, .int .i64 yl, .int .i64 ya, .int .i64 yt, .int .i64 yn, .slice PA Pn Pc, .slice QA Qn Qc, .int .i64 er, .int .i64 id, .int .i64 dy, .string ⟨cd.toArray⟩, .int .u8 st, .slice LA Ln Lc, .slice UA Un Uc] 44))
 go_enter Tryz.func16, Tryz.ntmps16
 go_upto_region 1 with fail
 generalize (w.alloc (.cells #[.int .u8 tk, .int .i64 at_, .int .i64 ses, .int .u8 yk, .int .i64 yr, .string ⟨yi.toArray⟩, .int .i64 yq, .int .i64 yd, .int .i64 yl, .int .i64 ya, .int .i64 yt, .int .i64 yn, .slice (some ⟨gq, 0, none⟩) Pn (Pn + 12), .slice (some ⟨gx, 0, none⟩) Qn (Qn + 12), .int .i64 er, .int .i64 id, .int .i64 dy, .string ⟨cd.toArray⟩, .int .u8 st, .slice (some ⟨gl, 0, none⟩) Ln (Ln + 12), .slice (some ⟨gu, 0, none⟩) Un (Un + 12)] 44)).alloc (.cells #[.int .u8 tk, .int .i64 at_, .int .i64 ses, .int .u8 yk, .int .i64 yr, .string ⟨yi.toArray⟩, .int .i64 yq, .int .i64 yd, .int .i64 yl, .int .i64 ya, .int .i64 yt, .int .i64 yn, .slice PA Pn Pc, .slice QA Qn Qc, .int .i64 er, .int .i64 id, .int .i64 dy, .string ⟨cd.toArray⟩, .int .u8 st, .slice LA Ln Lc, .slice UA Un Uc] 44) = w0 at *
 generalize w.heap.size + 1 = b2 at *
 generalize w.heap.size = b1 at *
 have r1 := A1.out.range21
 have r2 := A2.out.range21
 go_wp2_with (first
  | (refine wpList_load_mid rfl 44 _ rfl b1 0 rfl [.int .u8 tk, .int .i64 at_, .int .i64 ses, .int .u8 yk, .int .i64 yr, .string ⟨yi.toArray⟩, .int .i64 yq, .int .i64 yd, .int .i64 yl, .int .i64 ya, .int .i64 yt, .int .i64 yn, .slice (some ⟨gq, 0, none⟩) Pn (Pn + 12), .slice (some ⟨gx, 0, none⟩) Qn (Qn + 12), .int .i64 er, .int .i64 id, .int .i64 dy, .string ⟨cd.toArray⟩, .int .u8 st, .slice (some ⟨gl, 0, none⟩) Ln (Ln + 12), .slice (some ⟨gu, 0, none⟩) Un (Un + 12)] _ r1 Tryz.underlying44 rfl (by kernel_rfl) ?_)
  | (refine wpList_load_mid rfl 44 _ rfl b2 0 rfl [.int .u8 tk, .int .i64 at_, .int .i64 ses, .int .u8 yk, .int .i64 yr, .string ⟨yi.toArray⟩, .int .i64 yq, .int .i64 yd, .int .i64 yl, .int .i64 ya, .int .i64 yt, .int .i64 yn, .slice PA Pn Pc, .slice QA Qn Qc, .int .i64 er, .int .i64 id, .int .i64 dy, .string ⟨cd.toArray⟩, .int .u8 st, .slice LA Ln Lc, .slice UA Un Uc] _ r2 Tryz.underlying44 rfl (by kernel_rfl) ?_))
 refine (HS.out w0 T0.out).mono ?_
 rintro e w1 ⟨rfl, t1⟩
 have T1 := hZ (T0.out.and_ t1)
 have A3 := hZ (A1.out.turned t1 (fun e => e))
 have A4 := hZ (A2.out.turned t1 (fun e => e))
 clear t1 T0 A1 A2 r1 r2 HS
 obtain ⟨c0, c1, c2, c3, c4, c5, c6, c7, c8, c9, c10, c11, c12, c13, c14, c15, c16, c17, c18, c19, c20⟩ := A3.out.cells21
 obtain ⟨d0, d1, d2, d3, d4, d5, d6, d7, d8, d9, d10, d11, d12, d13, d14, d15, d16, d17, d18, d19, d20⟩ := A4.out.cells21
 go_wp2_with fail
 refine (HA.out _ T1.out).mono ?_
 rintro e w2 ⟨rfl, t2⟩
 have T2 := hZ (T1.out.and_ t2)
 clear c0 c1 c2 c3 c4 c5 c6 c7 c8 c9 c10 c11 c12 c13 c14 c15 c16 c17 c18 c19 c20 d0 d1 d2 d3 d4 d5 d6 d7 d8 d9 d10 d11 d12 d13 d14 d15 d16 d17 d18 d19 d20
 obtain ⟨c0, c1, c2, c3, c4, c5, c6, c7, c8, c9, c10, c11, c12, c13, c14, c15, c16, c17, c18, c19, c20⟩ := (A3.out.turned t2 (fun e => e)).cells21
 obtain ⟨d0, d1, d2, d3, d4, d5, d6, d7, d8, d9, d10, d11, d12, d13, d14, d15, d16, d17, d18, d19, d20⟩ := (A4.out.turned t2 (fun e => e)).cells21
 clear t2 T1 A3 A4 HA
 go_wp2_with fail
 refine (HT.out _ T2.out).mono ?_
 rintro e w3 ⟨rfl, t3⟩
 have T3 := hZ (T2.out.and_ t3)
 clear t3 T2
 go_wp2_with fail
 go_ret
 exact ⟨rfl, T3.out⟩
end Go.Proofs.YtglojnmcbochaaaGreatDoor

