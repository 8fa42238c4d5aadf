/-
 The program's reader takes a step: the walk. Conditions: the library's variables, ask.kinds and lines.verbs hold what their initialisers lay; at most 1000000 words.
-/
import Derived.Test.YtglojnmcbochaaaGreatDoorURdSh
namespace Go.Proofs.YtglojnmcbochaaaGreatDoor
open Go.RowKit Go.Maps
set_option linter.unusedVariables false
set_option linter.unusedSimpArgs false

set_option maxRecDepth 100000 in
set_option maxHeartbeats 8000000 in
theorem rd_step_any (w0 : World) (B g : Nat) (ws : WS) (bad : Bool) (w : World) (h : RdB w B g ws bad) (hB : BaseK w0 w g) (hbz : B ≤ w.heap.size) (hN : ws.length ≤ 1000000) : Calls Tryz.prog 26 #[.pointer (some ⟨g, 0, none⟩)] w (StpPost B g ws bad w) := by
 have mixed : Tryz.prog.follows .mixedOrders = true := by kernel_rfl
 have hgB := h.gB
 have hw := hZ (fun (w1 : World) (h1 : RdB w1 B g ws bad) => word_any B g ws bad w1 h1)
 have h' := hZ h
 have hB' := hZ hB
 clear h hB
 go_enter Tryz.func26, Tryz.ntmps26
 go_wp2_with fail
 have ta := hZ (((Turned.refl (fun _ => False) w).alloc (.cells #[.int .u8 0, .int .i64 0, .int .i64 0, .int .u8 0, .int .i64 0, .string ⟨#[]⟩, .int .i64 0, .int .i64 0, .int .i64 0, .int .i64 0, .int .i64 0, .int .i64 0, .slice none 0 0, .slice none 0 0, .slice none 0 0] 31)).alloc (.cells #[.int .u8 0, .int .i64 0, .int .i64 0, .int .u8 0, .int .i64 0, .string ⟨#[]⟩, .int .i64 0, .int .i64 0, .int .i64 0, .int .i64 0, .int .i64 0, .int .i64 0, .slice none 0 0, .slice none 0 0, .slice none 0 0] 31))
 have xr := hZ ((Blk.new w 31 #[.int .u8 0, .int .i64 0, .int .i64 0, .int .u8 0, .int .i64 0, .string ⟨#[]⟩, .int .i64 0, .int .i64 0, .int .i64 0, .int .i64 0, .int .i64 0, .int .i64 0, .slice none 0 0, .slice none 0 0, .slice none 0 0]).alloc (.cells #[.int .u8 0, .int .i64 0, .int .i64 0, .int .u8 0, .int .i64 0, .string ⟨#[]⟩, .int .i64 0, .int .i64 0, .int .i64 0, .int .i64 0, .int .i64 0, .int .i64 0, .slice none 0 0, .slice none 0 0, .slice none 0 0] 31))
 have xx := hZ (Blk.new (w.alloc (.cells #[.int .u8 0, .int .i64 0, .int .i64 0, .int .u8 0, .int .i64 0, .string ⟨#[]⟩, .int .i64 0, .int .i64 0, .int .i64 0, .int .i64 0, .int .i64 0, .int .i64 0, .slice none 0 0, .slice none 0 0, .slice none 0 0] 31)) 31 #[.int .u8 0, .int .i64 0, .int .i64 0, .int .u8 0, .int .i64 0, .string ⟨#[]⟩, .int .i64 0, .int .i64 0, .int .i64 0, .int .i64 0, .int .i64 0, .int .i64 0, .slice none 0 0, .slice none 0 0, .slice none 0 0])
 obtain ⟨wa, hwa⟩ : ∃ wa, wa = (w.alloc (.cells #[.int .u8 0, .int .i64 0, .int .i64 0, .int .u8 0, .int .i64 0, .string ⟨#[]⟩, .int .i64 0, .int .i64 0, .int .i64 0, .int .i64 0, .int .i64 0, .int .i64 0, .slice none 0 0, .slice none 0 0, .slice none 0 0] 31)).alloc (.cells #[.int .u8 0, .int .i64 0, .int .i64 0, .int .u8 0, .int .i64 0, .string ⟨#[]⟩, .int .i64 0, .int .i64 0, .int .i64 0, .int .i64 0, .int .i64 0, .int .i64 0, .slice none 0 0, .slice none 0 0, .slice none 0 0] 31) := ⟨_, rfl⟩
 have hza : wa.heap.size = w.heap.size + 2 := by rw [hwa]; simp
 rw [← hwa] at ta xr xx ⊢
 clear hwa
 rw [World.size_alloc] at xx
 refine (hw.out _ (h'.out.fresh ta.out)).mono ?_
 rintro e w2 ⟨rfl, R2, t2⟩
 have hz2 : w.heap.size + 2 ≤ w2.heap.size := by have := t2.size; omega
 have B2 := hZ ((hB'.out.next (turned_same ta.out)).next t2)
 have XR := hZ (xr.out.turned t2 (by omega))
 have XX := hZ (xx.out.turned t2 (by omega))
 have T2 := hZ ((turned_same (g := g) ta.out).eq_ t2)
 have R2 := hZ R2
 have htl := tail_le ws
 have hst := hZ (show stepP ws bad = (if ws.headD [] = [97, 115, 107] then ({ StepV.zero with kind := 1, session := numV ws.tail, ask := (askP ws.tail.tail (sessB ws.tail (bad || ws.isEmpty))).1 }, (askP ws.tail.tail (sessB ws.tail (bad || ws.isEmpty))).2)
  else if ws.headD [] = [114, 117, 110] then ({ StepV.zero with kind := 2, session := numV ws.tail }, ws.tail.tail, sessB ws.tail (bad || ws.isEmpty))
  else if ws.headD [] = [102, 108, 117, 115, 104] then ({ StepV.zero with kind := 3 }, ws.tail, bad || ws.isEmpty)
  else if ws.headD [] = [109, 97, 114, 107] then ({ StepV.zero with kind := 4 }, ws.tail, bad || ws.isEmpty)
  else if ws.headD [] = [111, 112, 101, 110] then ({ StepV.zero with kind := 6 }, ws.tail, bad || ws.isEmpty)
  else if ws.headD [] = [97, 114, 109] then ({ StepV.zero with kind := 7, num := numV ws.tail }, ws.tail.tail, nullB ws.tail (bad || ws.isEmpty))
  else if ws.headD [] = [99, 114, 97, 115, 104] then ({ StepV.zero with kind := 5, fates := (fatesP ws.tail (bad || ws.isEmpty)).1 }, (fatesP ws.tail (bad || ws.isEmpty)).2)
  else (StepV.zero, ws.tail, true)) from rfl)
 clear ta xr xx hw t2 hza
 obtain ⟨br, hbr⟩ : ∃ br, w.heap.size = br := ⟨_, rfl⟩
 have hbx : w.heap.size + 1 = br + 1 := by rw [hbr]
 rw [hbr] at XR hz2 ⊢
 rw [hbx] at XX
 have hbrB : B ≤ br := by omega
 generalize hgx : br + 1 = bx at *
 have hbb : br < bx := by omega
 have hb2 : bx < w2.heap.size := by omega
 clear hgx hbx hz2
 generalize ws.headD [] = wd at *
 generalize hem : (bad || ws.isEmpty) = b1 at *
 clear hem
 generalize hrs : ws.tail = rs1 at *
 clear hrs
 go_upto_block 0 with fail
 go_cut [] from 6 to 62 (fun wc => StpMid B g br bx ws bad w wc)
 case first =>
  by_cases h_ask : wd = [97, 115, 107]
  ·have q_ask : (wd == [97, 115, 107]) = true := by rw [h_ask]; rfl
   have hs := hst.out
   rw [if_pos h_ask] at hs
   have hs := hZ hs
   clear hst h_ask
   have hv := numV_64 rs1
   have hn := hZ (session_b B g rs1 b1 w0 w2 R2.out B2.out.b)
   go_wp2_with fail
   refine hn.out.mono ?_
   rintro e W3 ⟨rfl, R3, t3⟩
   have X3 := hZ (XX.out.turned t3 (by omega))
   have Y3 := hZ (XR.out.turned t3 (by omega))
   have T3 := hZ (T2.out.eq_ t3)
   have B3 := hZ (B2.out.next t3)
   have R3 := hZ R3
   have hz3 := t3.size
   clear hn t3
   obtain ⟨z0, z1, z2, z3, z4, z5, z6, z7, z8, z9, z10, z11, z12, z13, z14⟩ := X3.out.cells15
   have zf := X3.out.frozen
   go_wp2_with fail
   have tS := (turned_one W3 bx 0 (.int .u8 1)).eq_ (turned_one _ bx 1 (.int .i64 (numV rs1)))
   have X4 := (X3.out.set_ 0 (.int .u8 1)).set_ 1 (.int .i64 (numV rs1))
   simp only [zA, zB, zC] at X4
   have Y4 := Y3.out.turned tS (by omega)
   have R4 := R3.out.turned tS (fun i e => by subst e; omega)
   have T4 := T3.out.trans tS (W := (· = g)) (fun _ e => e) (fun i e => .inr (by subst e; omega))
   have b0 : w0.heap.size ≤ bx := by have := B3.out.b.g; omega
   have B4 : BaseK w0 ((W3.setCell ⟨bx, 0, none⟩ (.int .u8 1)).setCell ⟨bx, 1, none⟩ (.int .i64 (numV rs1))) g := ⟨⟨B3.out.b.vars, B3.out.b.t.trans tS (fun _ e => e) (fun i e => .inr (by subst e; exact b0)), B3.out.b.g⟩, B3.out.kinds, B3.out.verbs⟩
   have hz4 := tS.size
   generalize (W3.setCell ⟨bx, 0, none⟩ (.int .u8 1)).setCell ⟨bx, 1, none⟩ (.int .i64 (numV rs1)) = W4 at *
   have htl2 := tail_le rs1
   have hA := rd_ask_any w0 B g rs1.tail (sessB rs1 b1) W4 R4 B4 (by omega) (by omega)
   unfold AskPost at hA
   generalize askP rs1.tail (sessB rs1 b1) = y at *
   obtain ⟨⟨xk, xr, xi, xq, xd, xl, xa, xt, xn, xp, xo⟩, wsz, bz⟩ := y
   clear z0 z1 z2 z3 z4 z5 z6 z7 z8 z9 z10 z11 z12 z13 z14 zf tS X3 Y3 R3 T3 B3 R4
   have X4 := hZ X4
   have Y4 := hZ Y4
   have T4 := hZ T4
   refine hA.mono ?_
   rintro e W5 ⟨⟨⟨PA, Pn, Pc⟩, ⟨QA, On, Oc⟩⟩, rfl, R5, O5, K5, t5⟩
   simp only at R5 O5 K5
   simp only [askC, strV]
   have X5 := hZ (X4.out.turned t5 (by omega))
   have Y5 := hZ (Y4.out.turned t5 (by omega))
   have T5 := hZ (T4.out.eq_ t5)
   have R5 := hZ R5
   have O5 := hZ O5
   have K5 := hZ K5
   clear hA t5 X4 Y4 T4 B4
   obtain ⟨z0, z1, z2, z3, z4, z5, z6, z7, z8, z9, z10, z11, z12, z13, z14⟩ := X5.out.cells15
   have zf := X5.out.frozen
   go_wp2_with fail
   go_meet
   obtain ⟨wz, hwz, XZ, tZ⟩ := fin11at (.int .u8 xk) (.int .i64 xr) (.string ⟨xi.toArray⟩) (.int .i64 xq) (.int .i64 xd) (.int .i64 xl) (.int .i64 xa) (.int .i64 xt) (.int .i64 xn) (.slice PA Pn Pc) (.slice QA On Oc) X5.out
   rw [hwz]
   exact StpMid.of (x := (⟨1, numV rs1, 0, ⟨xk, xr, xi, xq, xd, xl, xa, xt, xn, xp, xo⟩, []⟩ : StepV)) (S := ⟨⟨PA, Pn, Pc⟩, ⟨QA, On, Oc⟩⟩) (Fs := Sl.nil) hs.out (R5.out.turned tZ (fun i e => by subst e; omega)) XZ (StpOwn.blk (w := W5) ⟨⟨O5.out.parts, O5.out.others, fun i e => (by have := O5.out.pB i e; omega), fun i e => (by have := O5.out.oB i e; omega)⟩, OwnE.nil _ _ _, (fun i e => by cases e)⟩ X5.out tZ (fun i e => e)) ⟨(show isByte (1 : Int) by unfold isByte; decide), hv, I64_zero, K5.out, (by simp)⟩ (Y5.out.turned tZ (by omega)) (T5.out.trans tZ (fun _ e => e) (fun i e => .inr (by subst e; omega)))
  have n_ask := h_ask
  clear h_ask
  have q_ask : (wd == [97, 115, 107]) = false := beq_eq_false_iff_ne.2 n_ask
  by_cases h_run : wd = [114, 117, 110]
  ·have q_run : (wd == [114, 117, 110]) = true := by rw [h_run]; rfl
   have hs := hst.out
   rw [if_neg n_ask] at hs
   rw [if_pos h_run] at hs
   have hs := hZ hs
   clear hst h_run
   have hv := numV_64 rs1
   have hn := hZ (session_b B g rs1 b1 w0 w2 R2.out B2.out.b)
   go_wp2_with fail
   refine hn.out.mono ?_
   rintro e W3 ⟨rfl, R3, t3⟩
   have X3 := hZ (XX.out.turned t3 (by omega))
   have Y3 := hZ (XR.out.turned t3 (by omega))
   have T3 := hZ (T2.out.eq_ t3)
   have R3 := hZ R3
   clear hn t3
   obtain ⟨z0, z1, z2, z3, z4, z5, z6, z7, z8, z9, z10, z11, z12, z13, z14⟩ := X3.out.cells15
   have zf := X3.out.frozen
   go_wp2_with fail
   go_meet
   have tS := (turned_one W3 bx 0 (.int .u8 2)).eq_ (turned_one _ bx 1 (.int .i64 (numV rs1)))
   exact StpMid.of (x := (⟨2, numV rs1, 0, AskV.zero, []⟩ : StepV)) (S := AskS.nil) (Fs := Sl.nil) hs.out (R3.out.turned tS (fun i e => by subst e; omega)) (by have := (X3.out.set_ 0 (.int .u8 2)).set_ 1 (.int .i64 (numV rs1)); simp only [zA, zB, zC] at this; exact this) (StpOwn.nil _ _ _ rfl rfl rfl) ⟨(show isByte (2 : Int) by unfold isByte; decide), hv, I64_zero, AskV.Ok.zero, (by simp)⟩ (Y3.out.turned tS (by omega)) (T3.out.trans tS (fun _ e => e) (fun i e => .inr (by subst e; omega)))
  have n_run := h_run
  clear h_run
  have q_run : (wd == [114, 117, 110]) = false := beq_eq_false_iff_ne.2 n_run
  by_cases h_flush : wd = [102, 108, 117, 115, 104]
  ·have q_flush : (wd == [102, 108, 117, 115, 104]) = true := by rw [h_flush]; rfl
   have hs := hst.out
   rw [if_neg n_ask] at hs
   rw [if_neg n_run] at hs
   rw [if_pos h_flush] at hs
   have hs := hZ hs
   clear hst h_flush
   obtain ⟨z0, z1, z2, z3, z4, z5, z6, z7, z8, z9, z10, z11, z12, z13, z14⟩ := XX.out.cells15
   have zf := XX.out.frozen
   go_wp2_with fail
   go_meet
   have tS := turned_one w2 bx 0 (.int .u8 3)
   exact StpMid.of (x := (⟨3, 0, 0, AskV.zero, []⟩ : StepV)) (S := AskS.nil) (Fs := Sl.nil) hs.out (R2.out.turned tS (fun i e => by subst e; omega)) (by have := XX.out.set_ 0 (.int .u8 3); simp only [zA, zB] at this; exact this) (StpOwn.nil _ _ _ rfl rfl rfl) ⟨(show isByte (3 : Int) by unfold isByte; decide), I64_zero, I64_zero, AskV.Ok.zero, (by simp)⟩ (XR.out.turned tS (by omega)) (T2.out.trans tS (fun _ e => e) (fun i e => .inr (by subst e; omega)))
  have n_flush := h_flush
  clear h_flush
  have q_flush : (wd == [102, 108, 117, 115, 104]) = false := beq_eq_false_iff_ne.2 n_flush
  by_cases h_mark : wd = [109, 97, 114, 107]
  ·have q_mark : (wd == [109, 97, 114, 107]) = true := by rw [h_mark]; rfl
   have hs := hst.out
   rw [if_neg n_ask] at hs
   rw [if_neg n_run] at hs
   rw [if_neg n_flush] at hs
   rw [if_pos h_mark] at hs
   have hs := hZ hs
   clear hst h_mark
   obtain ⟨z0, z1, z2, z3, z4, z5, z6, z7, z8, z9, z10, z11, z12, z13, z14⟩ := XX.out.cells15
   have zf := XX.out.frozen
   go_wp2_with fail
   go_meet
   have tS := turned_one w2 bx 0 (.int .u8 4)
   exact StpMid.of (x := (⟨4, 0, 0, AskV.zero, []⟩ : StepV)) (S := AskS.nil) (Fs := Sl.nil) hs.out (R2.out.turned tS (fun i e => by subst e; omega)) (by have := XX.out.set_ 0 (.int .u8 4); simp only [zA, zB] at this; exact this) (StpOwn.nil _ _ _ rfl rfl rfl) ⟨(show isByte (4 : Int) by unfold isByte; decide), I64_zero, I64_zero, AskV.Ok.zero, (by simp)⟩ (XR.out.turned tS (by omega)) (T2.out.trans tS (fun _ e => e) (fun i e => .inr (by subst e; omega)))
  have n_mark := h_mark
  clear h_mark
  have q_mark : (wd == [109, 97, 114, 107]) = false := beq_eq_false_iff_ne.2 n_mark
  by_cases h_open : wd = [111, 112, 101, 110]
  ·have q_open : (wd == [111, 112, 101, 110]) = true := by rw [h_open]; rfl
   have hs := hst.out
   rw [if_neg n_ask] at hs
   rw [if_neg n_run] at hs
   rw [if_neg n_flush] at hs
   rw [if_neg n_mark] at hs
   rw [if_pos h_open] at hs
   have hs := hZ hs
   clear hst h_open
   obtain ⟨z0, z1, z2, z3, z4, z5, z6, z7, z8, z9, z10, z11, z12, z13, z14⟩ := XX.out.cells15
   have zf := XX.out.frozen
   go_wp2_with fail
   go_meet
   have tS := turned_one w2 bx 0 (.int .u8 6)
   exact StpMid.of (x := (⟨6, 0, 0, AskV.zero, []⟩ : StepV)) (S := AskS.nil) (Fs := Sl.nil) hs.out (R2.out.turned tS (fun i e => by subst e; omega)) (by have := XX.out.set_ 0 (.int .u8 6); simp only [zA, zB] at this; exact this) (StpOwn.nil _ _ _ rfl rfl rfl) ⟨(show isByte (6 : Int) by unfold isByte; decide), I64_zero, I64_zero, AskV.Ok.zero, (by simp)⟩ (XR.out.turned tS (by omega)) (T2.out.trans tS (fun _ e => e) (fun i e => .inr (by subst e; omega)))
  have n_open := h_open
  clear h_open
  have q_open : (wd == [111, 112, 101, 110]) = false := beq_eq_false_iff_ne.2 n_open
  by_cases h_arm : wd = [97, 114, 109]
  ·have q_arm : (wd == [97, 114, 109]) = true := by rw [h_arm]; rfl
   have hs := hst.out
   rw [if_neg n_ask] at hs
   rw [if_neg n_run] at hs
   rw [if_neg n_flush] at hs
   rw [if_neg n_mark] at hs
   rw [if_neg n_open] at hs
   rw [if_pos h_arm] at hs
   have hs := hZ hs
   clear hst h_arm
   have hv := numV_64 rs1
   have hn := hZ (number_b B g rs1 b1 w0 w2 R2.out B2.out.b)
   go_wp2_with fail
   refine hn.out.mono ?_
   rintro e W3 ⟨rfl, R3, t3⟩
   have X3 := hZ (XX.out.turned t3 (by omega))
   have Y3 := hZ (XR.out.turned t3 (by omega))
   have T3 := hZ (T2.out.eq_ t3)
   have R3 := hZ R3
   clear hn t3
   obtain ⟨z0, z1, z2, z3, z4, z5, z6, z7, z8, z9, z10, z11, z12, z13, z14⟩ := X3.out.cells15
   have zf := X3.out.frozen
   go_wp2_with fail
   go_meet
   have tS := (turned_one W3 bx 0 (.int .u8 7)).eq_ (turned_one _ bx 2 (.int .i64 (numV rs1)))
   exact StpMid.of (x := (⟨7, 0, numV rs1, AskV.zero, []⟩ : StepV)) (S := AskS.nil) (Fs := Sl.nil) hs.out (R3.out.turned tS (fun i e => by subst e; omega)) (by have := (X3.out.set_ 0 (.int .u8 7)).set_ 2 (.int .i64 (numV rs1)); simp only [zA, zB, zC] at this; exact this) (StpOwn.nil _ _ _ rfl rfl rfl) ⟨(show isByte (7 : Int) by unfold isByte; decide), I64_zero, hv, AskV.Ok.zero, (by simp)⟩ (Y3.out.turned tS (by omega)) (T3.out.trans tS (fun _ e => e) (fun i e => .inr (by subst e; omega)))
  have n_arm := h_arm
  clear h_arm
  have q_arm : (wd == [97, 114, 109]) = false := beq_eq_false_iff_ne.2 n_arm
  by_cases h_crash : wd = [99, 114, 97, 115, 104]
  ·have q_crash : (wd == [99, 114, 97, 115, 104]) = true := by rw [h_crash]; rfl
   have hs := hst.out
   rw [if_neg n_ask] at hs
   rw [if_neg n_run] at hs
   rw [if_neg n_flush] at hs
   rw [if_neg n_mark] at hs
   rw [if_neg n_open] at hs
   rw [if_neg n_arm] at hs
   rw [if_pos h_crash] at hs
   have hs := hZ hs
   clear hst h_crash
   obtain ⟨z0, z1, z2, z3, z4, z5, z6, z7, z8, z9, z10, z11, z12, z13, z14⟩ := XX.out.cells15
   have zf := XX.out.frozen
   have tS := turned_one w2 bx 0 (.int .u8 5)
   have b0 : w0.heap.size ≤ bx := by have := B2.out.b.g; omega
   have hst0 := hZ (show CrRel w0 w B g br bx rs1 b1 (w2.setCell ⟨bx, 0, none⟩ (.int .u8 5)) from ⟨[], rs1, b1, Sl.nil, ⟨⟨⟨B2.out.b.vars, B2.out.b.t.trans tS (fun _ e => e) (fun i e => .inr (by subst e; exact b0)), B2.out.b.g⟩, B2.out.kinds, B2.out.verbs⟩, R2.out.turned tS (fun i e => by subst e; omega), by have := XX.out.set_ 0 (.int .u8 5); simp only [zA, zB] at this; exact this, OwnE.nil _ _ _, (fun i e => by cases e), by simp, XR.out.turned tS (by omega), T2.out.trans tS (fun _ e => e) (fun i e => .inr (by subst e; omega)), by simp; omega, by omega, by omega, by omega⟩, rfl⟩)
   clear tS
   go_wp2_with fail
   clear z0 z1 z2 z3 z4 z5 z6 z7 z8 z9 z10 z11 z12 z13 z14 zf
   go_loopw [] (fun wr => CrRel w0 w B g br bx rs1 b1 wr) (fun wr => rdLeft wr g)
   case atStart => exact hst0.out
   case round =>
    obtain ⟨l, ws6, b6, ⟨FA, Fn, Fc⟩, R6z, hez⟩ := hrel
    have R6 := hZ R6z
    have he := hZ hez
    clear R6z hez hst0
    have hmu := hZ (rdLeft_eq R6.out.rd)
    obtain ⟨RA, Rc, k0⟩ := R6.out.rd.slice
    have k1 := R6.out.rd.cells.1
    cases ws6 with
    | nil =>
     have FI := hZ (show stepP ws bad = ((⟨5, 0, 0, AskV.zero, l⟩ : StepV), [], b6) from by
      rw [hs.out, he.out, fatesP_nil]
      simp only [List.append_nil]
      rfl)
     go_wp2_with fail
     go_meet
     exact StpMid.of (S := AskS.nil) (Fs := ⟨FA, Fn, Fc⟩) FI.out R6.out.rd R6.out.xx ⟨AskOwn.nil _ _ _ rfl rfl, R6.out.own, R6.out.fB⟩ ⟨(show isByte (5 : Int) by unfold isByte; decide), I64_zero, I64_zero, AskV.Ok.zero, R6.out.ok⟩ R6.out.res R6.out.t
    | cons y t =>
     cases b6 with
     | true =>
      have FI := hZ (show stepP ws bad = ((⟨5, 0, 0, AskV.zero, l⟩ : StepV), (y :: t), true) from by
       rw [hs.out, he.out, fatesP_bad]
       simp only [List.append_nil]
       rfl)
      go_wp2_with fail
      go_meet
      exact StpMid.of (S := AskS.nil) (Fs := ⟨FA, Fn, Fc⟩) FI.out R6.out.rd R6.out.xx ⟨AskOwn.nil _ _ _ rfl rfl, R6.out.own, R6.out.fB⟩ ⟨(show isByte (5 : Int) by unfold isByte; decide), I64_zero, I64_zero, AskV.Ok.zero, R6.out.ok⟩ R6.out.res R6.out.t
     | false =>
      have hlN := hZ (show l.length = Fn from by
       have h5 := R6.out.own.len
       rw [fateC_length] at h5
       simp only at h5
       omega)
      have hNN : Fn + (t.length + 1) ≤ 1000000 := by
       have h5 := R6.out.few
       have h6 := hlN.out
       simp only [List.length_cons] at h5
       omega
      have hq64 := numV_64 (y :: t)
      have hstp := hZ (show fatesP (y :: t) false = (numV (y :: t) :: (fatesP t (nullB (y :: t) false)).1, (fatesP t (nullB (y :: t) false)).2) from rfl)
      have hli : (0 : Int) < ((y :: t).length : Int) := by simp only [List.length_cons]; omega
      go_wp2_with fail
      clear k0 k1
      refine wp_region_ts (fun _ => True) (tsT [0, 2] (.two 1 3 (.run 3 (.take 4 (.run 5 (.run 6 (.take 7 (.run 8 .nil)))))) (.take 4 (.two 1 5 (.run 5 (.run 6 (.take 7 (.run 8 .nil)))) (.run 1 (.run 6 (.take 7 (.run 8 .nil)))))))) mixed (by kernel_rfl) (fun _ _ _ _ _ h => h) ?_
      simp only [tsT, tsF, List.foldr_cons, List.foldr_nil, Ts.map, zI, zJ]
      have DD := hZ (R6.out.fresh ((Turned.refl (fun _ => False) wr).drew))
      iterate 2 (refine ts_take (v := ?_) trivial rfl (fun w' hw => ?_) ?_; rotate_left; (focus (go_simp; (try with_reducible rfl); done)); try simp only [Act.put, zA, zB, zC])
      obtain ⟨wd2, hwd2⟩ : ∃ wd2, wd2 = wr.drew := ⟨_, rfl⟩
      rw [← hwd2] at DD ⊢
      clear hwd2
      refine ts_two ?_ ?_
      ·refine now_run rfl (fun K hK => ?_)
       have x9 : _ = some (Value.slice FA Fn Fc) := DD.out.xx.cell 14
       go_simp
       refine hK.out _ _ trivial ?_
       clear hK K x9
       refine ts_run rfl (fun K hK => ?_)
       go_simp
       refine (number_b B g (y :: t) false w0 wd2 DD.out.rd DD.out.base.b).mono ?_
       rintro e W5 ⟨rfl, g5, t5⟩
       have D5 := hZ (DD.out.tk g5 t5 (by simp only [List.tail_cons, List.length_cons]; omega))
       simp only [List.tail_cons] at D5
       clear g5 DD
       generalize numV (y :: t) = iq at *
       generalize nullB (y :: t) false = b9 at *
       refine hK.out _ _ trivial ?_
       clear hK K
       (refine ts_take (v := ?_) trivial rfl (fun w' hw => ?_) ?_; rotate_left; (focus (go_simp; (try with_reducible rfl); done)); try simp only [Act.put, zA, zB, zC])
       refine ts_run rfl (fun K hK => ?_)
       go_simp
       refine hK.out _ _ trivial ?_
       clear hK K
       refine ts_run rfl (fun K hK => ?_)
       refine wp_appE fateT (.tmp 56) (.tmp 60) rfl (show OwnE _ 53 1 FA Fn Fc (fateC l) from D5.out.own.fresh ((Turned.refl (fun _ => False) W5).alloc (.cells #[.int .i64 iq] 53))) ⟨W5.heap.size, 0, none⟩ 1 1 [.int .i64 iq] rfl (news_new1 W5 53 _) (by simp [Value.oneCell']) (by omega) (by unfold maxLen; omega) (by omega) rfl rfl ?_
       intro A9 c9 W9 ho9 hor9
       refine hK.out _ _ trivial ?_
       clear hK K
       try simp only [Act.put, zA, zB, zC]
       have D6 := hZ (D5.out.fresh ((Turned.refl (fun _ => False) W5).alloc (.cells #[.int .i64 iq] 53)))
       have hXX := D6.out.xx.turned hor9.turned (fun e => D6.out.own.blk D6.out.xx (by decide) e rfl)
       have y9 : _ = some (Value.slice FA Fn Fc) := hXX.cell 14
       have yf := hXX.frozen 14
       have R9 := hZ (D6.out.grow hor9.turned (fun i e => e) (by rw [fateC_append]; exact ho9) (fun i e => (hor9.at_ (Nat.le_trans D5.out.t.size (by simp))).elim (fun h => D5.out.fB i (by rw [← h.1]; exact e)) (fun ⟨g2, h1, h2⟩ => by rw [h1] at e; injection e with e; injection e with e; omega)) hq64 (by have := hlN.out; omega))
       clear hXX ho9 hor9 D5 D6
       (refine ts_take (v := ?_) trivial rfl (fun w' hw => ?_) ?_; rotate_left; (focus (go_simp; (try with_reducible rfl); done)); try simp only [Act.put, zA, zB, zC])
       refine ts_run rfl (fun K hK => ?_)
       go_simp
       refine hK.out _ _ trivial ?_
       clear hK K
       refine ts_nil ?_
       generalize W9.setCell ⟨bx, 14, none⟩ (.slice A9 (Fn + 1) c9) = W10 at *
       have FI := hZ (show CrRel w0 w B g br bx rs1 b1 W10 from ⟨_, _, _, _, R9.out, by
        rw [he.out, hstp.out]
        simp⟩)
       have MU := hZ (rdLeft_eq R9.out.rd)
       clear R9 y9 yf
       go_wp2_with fail
       go_roundw
       case rel => exact FI.out
       case measure =>
        rw [hmu.out, MU.out]
        simp only [List.length_cons]
        omega
      ·refine now_run rfl (fun K hK => ?_)
       go_simp
       refine (number_b B g (y :: t) false w0 wd2 DD.out.rd DD.out.base.b).mono ?_
       rintro e W5 ⟨rfl, g5, t5⟩
       have D5 := hZ (DD.out.tk g5 t5 (by simp only [List.tail_cons, List.length_cons]; omega))
       simp only [List.tail_cons] at D5
       clear g5 DD
       generalize numV (y :: t) = iq at *
       generalize nullB (y :: t) false = b9 at *
       refine hK.out _ _ trivial ?_
       clear hK K
       (refine ts_take (v := ?_) trivial rfl (fun w' hw => ?_) ?_; rotate_left; (focus (go_simp; (try with_reducible rfl); done)); try simp only [Act.put, zA, zB, zC])
       refine ts_two ?_ ?_
       ·refine now_run rfl (fun K hK => ?_)
        have x9 : _ = some (Value.slice FA Fn Fc) := D5.out.xx.cell 14
        go_simp
        refine hK.out _ _ trivial ?_
        clear hK K x9
        refine ts_run rfl (fun K hK => ?_)
        go_simp
        refine hK.out _ _ trivial ?_
        clear hK K
        refine ts_run rfl (fun K hK => ?_)
        refine wp_appE fateT (.tmp 56) (.tmp 60) rfl (show OwnE _ 53 1 FA Fn Fc (fateC l) from D5.out.own.fresh ((Turned.refl (fun _ => False) W5).alloc (.cells #[.int .i64 iq] 53))) ⟨W5.heap.size, 0, none⟩ 1 1 [.int .i64 iq] rfl (news_new1 W5 53 _) (by simp [Value.oneCell']) (by omega) (by unfold maxLen; omega) (by omega) rfl rfl ?_
        intro A9 c9 W9 ho9 hor9
        refine hK.out _ _ trivial ?_
        clear hK K
        try simp only [Act.put, zA, zB, zC]
        have D6 := hZ (D5.out.fresh ((Turned.refl (fun _ => False) W5).alloc (.cells #[.int .i64 iq] 53)))
        have hXX := D6.out.xx.turned hor9.turned (fun e => D6.out.own.blk D6.out.xx (by decide) e rfl)
        have y9 : _ = some (Value.slice FA Fn Fc) := hXX.cell 14
        have yf := hXX.frozen 14
        have R9 := hZ (D6.out.grow hor9.turned (fun i e => e) (by rw [fateC_append]; exact ho9) (fun i e => (hor9.at_ (Nat.le_trans D5.out.t.size (by simp))).elim (fun h => D5.out.fB i (by rw [← h.1]; exact e)) (fun ⟨g2, h1, h2⟩ => by rw [h1] at e; injection e with e; injection e with e; omega)) hq64 (by have := hlN.out; omega))
        clear hXX ho9 hor9 D5 D6
        (refine ts_take (v := ?_) trivial rfl (fun w' hw => ?_) ?_; rotate_left; (focus (go_simp; (try with_reducible rfl); done)); try simp only [Act.put, zA, zB, zC])
        refine ts_run rfl (fun K hK => ?_)
        go_simp
        refine hK.out _ _ trivial ?_
        clear hK K
        refine ts_nil ?_
        generalize W9.setCell ⟨bx, 14, none⟩ (.slice A9 (Fn + 1) c9) = W10 at *
        have FI := hZ (show CrRel w0 w B g br bx rs1 b1 W10 from ⟨_, _, _, _, R9.out, by
         rw [he.out, hstp.out]
         simp⟩)
        have MU := hZ (rdLeft_eq R9.out.rd)
        clear R9 y9 yf
        go_wp2_with fail
        go_roundw
        case rel => exact FI.out
        case measure =>
         rw [hmu.out, MU.out]
         simp only [List.length_cons]
         omega
       ·refine now_run rfl (fun K hK => ?_)
        go_simp
        refine hK.out _ _ trivial ?_
        clear hK K
        refine ts_run rfl (fun K hK => ?_)
        have x9 : _ = some (Value.slice FA Fn Fc) := (D5.out.fresh ((Turned.refl (fun _ => False) W5).alloc (.cells #[.int .i64 iq] 53))).xx.cell 14
        go_simp
        refine hK.out _ _ trivial ?_
        clear hK K x9
        refine ts_run rfl (fun K hK => ?_)
        refine wp_appE fateT (.tmp 56) (.tmp 60) rfl (show OwnE _ 53 1 FA Fn Fc (fateC l) from D5.out.own.fresh ((Turned.refl (fun _ => False) W5).alloc (.cells #[.int .i64 iq] 53))) ⟨W5.heap.size, 0, none⟩ 1 1 [.int .i64 iq] rfl (news_new1 W5 53 _) (by simp [Value.oneCell']) (by omega) (by unfold maxLen; omega) (by omega) rfl rfl ?_
        intro A9 c9 W9 ho9 hor9
        refine hK.out _ _ trivial ?_
        clear hK K
        try simp only [Act.put, zA, zB, zC]
        have D6 := hZ (D5.out.fresh ((Turned.refl (fun _ => False) W5).alloc (.cells #[.int .i64 iq] 53)))
        have hXX := D6.out.xx.turned hor9.turned (fun e => D6.out.own.blk D6.out.xx (by decide) e rfl)
        have y9 : _ = some (Value.slice FA Fn Fc) := hXX.cell 14
        have yf := hXX.frozen 14
        have R9 := hZ (D6.out.grow hor9.turned (fun i e => e) (by rw [fateC_append]; exact ho9) (fun i e => (hor9.at_ (Nat.le_trans D5.out.t.size (by simp))).elim (fun h => D5.out.fB i (by rw [← h.1]; exact e)) (fun ⟨g2, h1, h2⟩ => by rw [h1] at e; injection e with e; injection e with e; omega)) hq64 (by have := hlN.out; omega))
        clear hXX ho9 hor9 D5 D6
        (refine ts_take (v := ?_) trivial rfl (fun w' hw => ?_) ?_; rotate_left; (focus (go_simp; (try with_reducible rfl); done)); try simp only [Act.put, zA, zB, zC])
        refine ts_run rfl (fun K hK => ?_)
        go_simp
        refine hK.out _ _ trivial ?_
        clear hK K
        refine ts_nil ?_
        generalize W9.setCell ⟨bx, 14, none⟩ (.slice A9 (Fn + 1) c9) = W10 at *
        have FI := hZ (show CrRel w0 w B g br bx rs1 b1 W10 from ⟨_, _, _, _, R9.out, by
         rw [he.out, hstp.out]
         simp⟩)
        have MU := hZ (rdLeft_eq R9.out.rd)
        clear R9 y9 yf
        go_wp2_with fail
        go_roundw
        case rel => exact FI.out
        case measure =>
         rw [hmu.out, MU.out]
         simp only [List.length_cons]
         omega
  have n_crash := h_crash
  clear h_crash
  have q_crash : (wd == [99, 114, 97, 115, 104]) = false := beq_eq_false_iff_ne.2 n_crash
  have hs := hst.out
  rw [if_neg n_ask] at hs
  rw [if_neg n_run] at hs
  rw [if_neg n_flush] at hs
  rw [if_neg n_mark] at hs
  rw [if_neg n_open] at hs
  rw [if_neg n_arm] at hs
  rw [if_neg n_crash] at hs
  have hs := hZ hs
  clear hst
  have c1 := R2.out.cells.1
  have f1 := R2.out.cells.2
  go_wp2_with fail
  go_meet
  have tS := turned_one w2 g 1 (.bool true)
  exact StpMid.of (x := StepV.zero) (S := AskS.nil) (Fs := Sl.nil) hs.out (R2.out.bad_ true) (XX.out.turned tS (by omega)) (StpOwn.nil _ _ _ rfl rfl rfl) ⟨(show isByte (0 : Int) by unfold isByte; decide), I64_zero, I64_zero, AskV.Ok.zero, fun n h => (by cases h)⟩ (XR.out.turned tS (by omega)) (T2.out.eq_ tS)
 case rest =>
  clear hst
  obtain ⟨S, Fs, R5, X5, O5, K5, Y5, T5⟩ := hcut
  obtain ⟨sp, hsp0⟩ : ∃ sp, stepP ws bad = sp := ⟨_, rfl⟩
  have hsp := hZ hsp0
  rw [hsp0] at R5 X5 O5 K5
  clear hsp0
  obtain ⟨x, ws', rb⟩ := sp
  simp only at R5 X5 O5 K5
  have R5 := hZ R5
  have O5 := hZ O5
  have T5 := hZ T5
  have X5 := hZ X5
  have Y5 := hZ Y5
  obtain ⟨⟨PA, Pn, Pc⟩, ⟨QA, On, Oc⟩⟩ := S
  obtain ⟨FA, Fn, Fc⟩ := Fs
  obtain ⟨k0, k1, k2, ⟨xk, xr, xi, xq, xd, xl, xa, xt, xn, xp, xo⟩, k14⟩ := x
  obtain ⟨c0, c1, c2, c3, c4, c5, c6, c7, c8, c9, c10, c11, c12, c13, c14⟩ := Blk.cells15 (show Blk wc bx 31 #[.int .u8 k0, .int .i64 k1, .int .i64 k2, .int .u8 xk, .int .i64 xr, .string ⟨xi.toArray⟩, .int .i64 xq, .int .i64 xd, .int .i64 xl, .int .i64 xa, .int .i64 xt, .int .i64 xn, .slice PA Pn Pc, .slice QA On Oc, .slice FA Fn Fc] from X5.out)
  obtain ⟨y0, y1, y2, y3, y4, y5, y6, y7, y8, y9, y10, y11, y12, y13, y14⟩ := Blk.cells15 (show Blk wc br 31 #[.int .u8 0, .int .i64 0, .int .i64 0, .int .u8 0, .int .i64 0, .string ⟨#[]⟩, .int .i64 0, .int .i64 0, .int .i64 0, .int .i64 0, .int .i64 0, .int .i64 0, .slice none 0 0, .slice none 0 0, .slice none 0 0] from Y5.out)
  have yf := Y5.out.frozen
  go_wp2_with fail
  obtain ⟨wz, hwz, XZ, tZ⟩ := fin15 (.int .u8 k0) (.int .i64 k1) (.int .i64 k2) (.int .u8 xk) (.int .i64 xr) (.string ⟨xi.toArray⟩) (.int .i64 xq) (.int .i64 xd) (.int .i64 xl) (.int .i64 xa) (.int .i64 xt) (.int .i64 xn) (.slice PA Pn Pc) (.slice QA On Oc) (.slice FA Fn Fc) Y5.out
  rw [hwz]
  clear hwz
  obtain ⟨e0, e1, e2, e3, e4, e5, e6, e7, e8, e9, e10, e11, e12, e13, e14⟩ := XZ.cells15
  refine bodyPost_ret (v := .agg #[.int .u8 k0, .int .i64 k1, .int .i64 k2, .int .u8 xk, .int .i64 xr, .string ⟨xi.toArray⟩, .int .i64 xq, .int .i64 xd, .int .i64 xl, .int .i64 xa, .int .i64 xt, .int .i64 xn, .slice PA Pn Pc, .slice QA On Oc, .slice FA Fn Fc]) (by simp [results, Tryz.results26, go_sem, e0, e1, e2, e3, e4, e5, e6, e7, e8, e9, e10, e11, e12, e13, e14]) rfl ?_
  unfold StpPost
  rw [hsp.out]
  refine ⟨⟨⟨PA, Pn, Pc⟩, ⟨QA, On, Oc⟩⟩, ⟨FA, Fn, Fc⟩, rfl, R5.out.turned tZ (fun i e => by subst e; exact hbrB), O5.out.blk Y5.out tZ (fun i e => e), K5, ?_⟩
  exact T5.out.trans tZ (fun _ e => e) (fun i e => .inr (by subst e; omega))
end Go.Proofs.YtglojnmcbochaaaGreatDoor

