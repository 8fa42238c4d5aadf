/-
  storemanref19.Get: the record that bytes begin with, as the document says. Condition: at most 1000000 bytes.
-/
import Derived.Test.YtohajofkflibjaaGreatDoorRfF
namespace Go.Proofs.YtohajofkflibjaaGreatDoor
open Go.RowKit Go.Maps
set_option linter.unusedVariables false
set_option linter.unusedSimpArgs false

theorem isF_in {w' : World} {r B B' k : Nat} {s : Option (List Int)} {A : Option Addr} {c : Nat} (ho : OwnV w' A (takeS k s).1.length c (takeS k s).1) (hg : ∀ g, A = some ⟨g, 0, none⟩ → g ≠ r) (hR : IsF w' r B (takeS k s).2) (hB : w'.heap.size ≤ B') (hk : k ≤ 1000000) : IsF (w'.setCell ⟨r, 0, none⟩ (.slice A (takeS k s).1.length c)) r B' (inS k s) := by
  have tS := (Turned.refl (· = r) w').setCell (p := ⟨r, 0, none⟩) (.inl rfl) (.slice A (takeS k s).1.length c)
  have hl := takeS_len k s
  have hrl := hR.lt.1
  have ho2 := ho.turned tS hg
  unfold inS
  cases hs : (takeS k s).2 with
  | none =>
    rw [hs] at hR
    obtain ⟨hr, A2, n2, c2, hb, hn⟩ := hR
    exact ⟨by omega, A, _, c, hb.set_ 0 _, by unfold maxLen; omega⟩
  | some ys =>
    rw [hs] at hR
    obtain ⟨hr, A2, n2, c2, hb, _⟩ := hR
    refine ⟨by omega, A, _, c, hb.set_ 0 _, ho2.bytS', ho.max.1, ho.max.2, ?_, by omega⟩
    rcases ho.row_or with ⟨e, _⟩ | ⟨g, e, hrow⟩
    · exact .inl e
    · exact .inr ⟨g, 0, e, by have := hrow.lt; omega, hg g e⟩
theorem rdF_end {w : World} {r B : Nat} (h : IsF w r B none) : ∃ A n c, w.cell? ⟨r, 0, none⟩ = some (.slice A n c) ∧ w.cell? ⟨r, 1, none⟩ = some (.bool true) := by
  obtain ⟨_, A, n, c, hb, _⟩ := h
  exact ⟨A, n, c, hb.cell 0, hb.cell 1⟩
theorem rdF_some {w : World} {r B : Nat} {ys : List Int} (h : IsF w r B (some ys)) : ∃ A n c, w.cell? ⟨r, 0, none⟩ = some (.slice A n c) ∧ w.cell? ⟨r, 1, none⟩ = some (.bool false) ∧ n = ys.length ∧ n ≤ 9223372036854775807 := by
  obtain ⟨_, A, n, c, hb, hy, hnc, hc, _⟩ := h
  unfold maxLen at hc
  exact ⟨A, n, c, hb.cell 0, hb.cell 1, hy.len.symm, by omega⟩
theorem rdF_blk {w : World} {r B : Nat} {s : Option (List Int)} (h : IsF w r B s) : ∃ A n c sh, RdF w r A n c sh := by
  cases s with
  | none => obtain ⟨_, A, n, c, hb, _⟩ := h; exact ⟨A, n, c, _, hb⟩
  | some zs => obtain ⟨_, A, n, c, hb, _⟩ := h; exact ⟨A, n, c, _, hb⟩
set_option maxRecDepth 100000 in
set_option maxHeartbeats 2000000 in
theorem fget_3 (A : Option Addr) (n c : Nat) (zs : List Int) (w : World) (h : BytS w A n c zs) (hb : ∀ z ∈ zs, isByte z) (hnc : n ≤ c) (hc : c ≤ maxLen) (hn6 : n ≤ 1000000) (hk : kindOf zs = 3) : Calls Tryz.prog 21 #[.slice A n c] w (RGet zs w) := by
  have hbS : ∀ ys, (some zs : Option (List Int)) = some ys → ∀ y ∈ ys, isByte y := fun ys e y hy => by injection e with e; subst e; exact hb y hy
  obtain ⟨m, hm, hm2⟩ := numS2_nat (some zs) hbS
  have hG : getR zs = finR m (restS (kindOf zs) (numS 1 (inS m (numS 2 (some zs)).2)).2) := by
    unfold getR getS kindOf
    rw [hm, Int.toNat_natCast]
  have hkd : (numS 1 (inS m (numS 2 (some zs)).2)).1 = kindOf zs := by
    unfold kindOf
    rw [hm, Int.toNat_natCast]
  obtain ⟨kk, hkk, hk255⟩ := numS1_nat (inS m (numS 2 (some zs)).2) (inS_bytes (numS_bytes hbS))
  rw [hkd] at hkk
  rw [hk] at hG
  clear hkk hk255
  have hcm := hc
  unfold maxLen at hcm
  have hpl : 0 < n → PlF (w.heap.size + 1) (w.heap.size + 2) A := fun h0 => by
    obtain ⟨b, off, e, hcl⟩ := h.cell h0
    have := World.block_lt_of_cell? w ⟨b, off + 0, none⟩ (hcl 0 h0)
    exact .inr ⟨b, off, e, by simp at this; omega, by simp at this; omega⟩
  have hRB := (Blk.new w 29 #[.int .i64 0, .int .i64 0, .int .i64 0, .int .i64 0, .int .u8 0, .int .i64 0, .slice none 0 0, .slice none 0 0, .slice none 0 0, .slice none 0 0, .slice none 0 0]).alloc (.cells #[.slice A n c, .bool false] 118)
  have hRd : RdF ((w.alloc (.cells #[.int .i64 0, .int .i64 0, .int .i64 0, .int .i64 0, .int .u8 0, .int .i64 0, .slice none 0 0, .slice none 0 0, .slice none 0 0, .slice none 0 0, .slice none 0 0] 29)).alloc (.cells #[.slice A n c, .bool false] 118)) (w.heap.size + 1) A n c false := Blk.new_at _ _ _ (by simp)
  have hT := ((Turned.refl (fun _ => False) w).alloc (.cells #[.int .i64 0, .int .i64 0, .int .i64 0, .int .i64 0, .int .u8 0, .int .i64 0, .slice none 0 0, .slice none 0 0, .slice none 0 0, .slice none 0 0, .slice none 0 0] 29)).alloc (.cells #[.slice A n c, .bool false] 118)
  have hs0 : ((w.alloc (.cells #[.int .i64 0, .int .i64 0, .int .i64 0, .int .i64 0, .int .u8 0, .int .i64 0, .slice none 0 0, .slice none 0 0, .slice none 0 0, .slice none 0 0, .slice none 0 0] 29)).alloc (.cells #[.slice A n c, .bool false] 118)).heap.size = w.heap.size + 2 := by simp
  have hN1 : Calls Tryz.prog 61 #[.pointer (some ⟨w.heap.size + 1, 0, none⟩), .int .i64 (2 : Nat)] ((w.alloc (.cells #[.int .i64 0, .int .i64 0, .int .i64 0, .int .i64 0, .int .u8 0, .int .i64 0, .slice none 0 0, .slice none 0 0, .slice none 0 0, .slice none 0 0, .slice none 0 0] 29)).alloc (.cells #[.slice A n c, .bool false] 118)) (NmPost (w.heap.size + 1) (w.heap.size + 2) 2 (some zs) ((w.alloc (.cells #[.int .i64 0, .int .i64 0, .int .i64 0, .int .i64 0, .int .u8 0, .int .i64 0, .slice none 0 0, .slice none 0 0, .slice none 0 0, .slice none 0 0, .slice none 0 0] 29)).alloc (.cells #[.slice A n c, .bool false] 118))) := by
    rcases Nat.lt_or_ge n 2 with hlt | hge
    · exact fnum_by _ _ 2 (some zs) _ (ftake_short _ _ A n c 2 false _ hRd (by omega) (by omega) (by omega) (.inr hlt) (some zs) (takeS_short (by rw [h.len]; exact hlt))) (by omega) hbS
    · exact fnum_any _ _ 2 (some zs) _ ⟨by omega, A, n, c, hRd, h.turned hT (fun _ _ _ e => e), hnc, hc, hpl (by omega), hn6⟩ (by omega) (by omega) hbS
  unfold NmPost at hN1
  rw [hm] at hN1
  have hb1 := Lib.hid (numS_bytes (k := 2) hbS)
  have hN1' := Lib.hid hN1
  have RB0 := Lib.hid hRB
  have T0 := Lib.hid hT
  have HG := Lib.hid hG
  have HKD := Lib.hid hkd
  clear hN1 hRB hRd hT hG hkd hm hpl h hb hbS
  generalize (numS 2 (some zs)).2 = s1 at *
  go_enter Tryz.func21, Tryz.ntmps21
  go_wp2_with fail
  generalize ((w.alloc (.cells #[.int .i64 0, .int .i64 0, .int .i64 0, .int .i64 0, .int .u8 0, .int .i64 0, .slice none 0 0, .slice none 0 0, .slice none 0 0, .slice none 0 0, .slice none 0 0] 29)).alloc (.cells #[.slice A n c, .bool false] 118)) = w0 at *
  refine hN1'.out.mono ?_
  rintro e w1 ⟨rfl, hR1, t1⟩
  have R1 := Lib.hid hR1
  have hsz1 : w.heap.size + 2 ≤ w1.heap.size := by have := t1.size; omega
  have T1 := Lib.hid (T0.out.trans (W := fun _ => False) t1 (fun _ e => e) (fun i e => .inr (by omega)))
  have RB1 := Lib.hid (RB0.out.turned t1 (fun e => by omega))
  clear hR1 t1 T0 RB0 hN1'
  go_wp2_with fail
  refine (ftake_any (w.heap.size + 1) _ m s1 w1 R1.out (by omega)).mono ?_
  rintro e w2 ⟨A2, c2, rfl, hy2, hg2, hR2, t2⟩
  obtain ⟨B, hBB⟩ : ∃ B, B = w2.heap.size := ⟨_, rfl⟩
  have R3 := Lib.hid (isF_in hy2 (fun g e => by have := hg2 g e; omega) hR2 (Nat.le_of_eq hBB.symm) (by omega))
  obtain ⟨A3, n3, c3, sh3, hq3⟩ := rdF_blk hR2
  have q0 : w2.cell? ⟨w.heap.size + 1, 0, none⟩ = some (.slice A3 n3 c3) := hq3.cell 0
  have f0 := hq3.frozen 0
  have t3 := t2.setCell (p := ⟨w.heap.size + 1, 0, none⟩) (.inl rfl) (.slice A2 (takeS m s1).1.length c2)
  have hsz2 : w.heap.size + 2 ≤ w2.heap.size := by have := t2.size; omega
  have hsB : (w2.setCell ⟨w.heap.size + 1, 0, none⟩ (.slice A2 (takeS m s1).1.length c2)).heap.size = B := by rw [hBB]; simp [World.setCell]
  have T3 := Lib.hid (T1.out.trans (W := fun _ => False) t3 (fun _ e => e) (fun i e => .inr (by omega)))
  have RB3 := Lib.hid (RB1.out.turned t3 (fun e => by omega))
  have hB2 : w.heap.size + 2 ≤ B := by omega
  have hBB := Lib.hid hBB
  clear hy2 hg2 hR2 t2 t3 hq3 R1 T1 RB1 hBB
  go_wp2_with fail
  generalize w2.setCell ⟨w.heap.size + 1, 0, none⟩ (.slice A2 (takeS m s1).1.length c2) = w3 at *
  have hN3 := fnum_any (w.heap.size + 1) B 1 (inS m s1) w3 R3.out (by omega) (by omega) (inS_bytes hb1.out)
  unfold NmPost at hN3
  rw [HKD.out, hk] at hN3
  refine hN3.mono ?_
  rintro e w4 ⟨rfl, hR4, t4⟩
  have R4 := Lib.hid hR4
  have hB4 : B ≤ w4.heap.size := by have := t4.size; omega
  have T4 := Lib.hid (T3.out.trans (W := fun _ => False) t4 (fun _ e => e) (fun i e => .inr (by omega)))
  have RB4 := Lib.hid (RB3.out.turned t4 (fun e => by omega))
  have hb4 := Lib.hid (numS_bytes (k := 1) (inS_bytes hb1.out (k := m)))
  clear hR4 t4 T3 RB3 R3 q0 f0 hN3 hb1 hsB
  generalize (numS 1 (inS m s1)).2 = s4 at *
  clear HKD
  have hwr : w.heap.size < w.heap.size + 1 := by omega
  have HG := Lib.hid (show getR zs = finR m ((⟨0, (numS 8 s4).1, (numS 8 (numS 8 s4).2).1, 0, 3, 0, [], [], [], [], []⟩ : Rec), (numS 8 (numS 8 s4).2).2) from HG.out)
  generalize w.heap.size + 1 = r at *
  have H1 := Lib.hid (fun (w' : World) (h : IsF w' r B s4) (hB : B ≤ w'.heap.size) => fnum_any r B 8 s4 w' h hB (by omega) hb4.out)
  have hb5 := Lib.hid (numS_bytes (k := 8) hb4.out)
  unfold NmPost at H1
  generalize (numS 8 s4).1 = work at *
  generalize (numS 8 s4).2 = s5 at *
  clear hb4
  have H2 := Lib.hid (fun (w' : World) (h : IsF w' r B s5) (hB : B ≤ w'.heap.size) => fnum_any r B 8 s5 w' h hB (by omega) hb5.out)
  have hb6 := Lib.hid (numS_bytes (k := 8) hb5.out)
  unfold NmPost at H2
  generalize (numS 8 s5).1 = prev at *
  generalize (numS 8 s5).2 = s6 at *
  clear hb5
  have X5 := Lib.hid (Blk.new w4 29 (recC (⟨0, 0, 0, 0, 3, 0, [], [], [], [], []⟩ : Rec) (⟨⟨none, 0, 0⟩, ⟨none, 0, 0⟩, ⟨none, 0, 0⟩, ⟨none, 0, 0⟩, ⟨none, 0, 0⟩⟩ : RecS)))
  have t5 := (Turned.refl (fun _ => False) w4).alloc (.cells (recC (⟨0, 0, 0, 0, 3, 0, [], [], [], [], []⟩ : Rec) (⟨⟨none, 0, 0⟩, ⟨none, 0, 0⟩, ⟨none, 0, 0⟩, ⟨none, 0, 0⟩, ⟨none, 0, 0⟩⟩ : RecS)) 29)
  have hsz5 : w4.heap.size + 1 ≤ (w4.alloc (.cells (recC (⟨0, 0, 0, 0, 3, 0, [], [], [], [], []⟩ : Rec) (⟨⟨none, 0, 0⟩, ⟨none, 0, 0⟩, ⟨none, 0, 0⟩, ⟨none, 0, 0⟩, ⟨none, 0, 0⟩⟩ : RecS)) 29)).heap.size := by simp
  have R5 := Lib.hid (R4.out.fresh t5 (Nat.le_refl _))
  have hrB := R4.out.lt.2
  have T5 := Lib.hid (T4.out.and_ t5)
  have RB5 := Lib.hid (RB4.out.turned t5 (fun e => e))
  clear t5 R4 T4 RB4
  unfold recC at X5 hsz5 R5 T5 RB5
  simp only at X5 hsz5 R5 T5 RB5
  go_wp2_with fail
  generalize w4.alloc (.cells #[.int .i64 0, .int .i64 0, .int .i64 0, .int .i64 0, .int .u8 3, .int .i64 0, .slice none 0 0, .slice none 0 0, .slice none 0 0, .slice none 0 0, .slice none 0 0] 29) = w5 at *
  generalize w4.heap.size = xb at *
  have hne1 : ¬ (r = xb) := by omega
  have hne2 : ¬ (xb = r) := by omega
  have hne3 : ¬ (w.heap.size = xb) := by omega
  have hne4 : ¬ (xb = w.heap.size) := by omega
  have hne5 : ¬ (w.heap.size = r) := by omega
  have hne6 : ¬ (r = w.heap.size) := by omega
  have RB5 : Hid (Blk w5 w.heap.size 29 (recC Rec.zero RecS.nil)) := RB5
  obtain ⟨x0, x1, x2, x3, x4, x5, x6, x7, x8, x9, x10⟩ := RecAt.of_blk (R := (⟨0, 0, 0, 0, 3, 0, [], [], [], [], []⟩ : Rec)) (S := (⟨⟨none, 0, 0⟩, ⟨none, 0, 0⟩, ⟨none, 0, 0⟩, ⟨none, 0, 0⟩, ⟨none, 0, 0⟩⟩ : RecS)) X5.out
  simp only at x0 x1 x2 x3 x4 x5 x6 x7 x8 x9 x10
  have xf := X5.out.frozen
  refine (H1.out _ R5.out (by omega)).mono ?_
  rintro e w6 ⟨rfl, hR, t⟩
  have R6 := Lib.hid hR
  have T6 := Lib.hid (T5.out.trans (W := fun _ => False) t (fun _ e => e) (fun i e => .inr (by omega)))
  have RB6 := Lib.hid (RB5.out.turned t (fun e => by omega))
  have X6 := Lib.hid (X5.out.turned t (fun e => by omega))
  have hsz6 := Nat.le_trans hsz5 t.size
  have hmo6 := t.size
  clear hR t R5 T5 RB5 X5
  clear x0 x1 x2 x3 x4 x5 x6 x7 x8 x9 x10 xf
  obtain ⟨x0, x1, x2, x3, x4, x5, x6, x7, x8, x9, x10⟩ := RecAt.of_blk (R := (⟨0, 0, 0, 0, 3, 0, [], [], [], [], []⟩ : Rec)) (S := (⟨⟨none, 0, 0⟩, ⟨none, 0, 0⟩, ⟨none, 0, 0⟩, ⟨none, 0, 0⟩, ⟨none, 0, 0⟩⟩ : RecS)) X6.out
  simp only at x0 x1 x2 x3 x4 x5 x6 x7 x8 x9 x10
  have xf := X6.out.frozen
  go_wp2_with fail
  have tS := (Turned.refl (fun i => i = xb) w6).setCell (p := ⟨xb, 1, none⟩) (.inl rfl) (.int .i64 work)
  have X7 : Hid (Blk (w6.setCell ⟨xb, 1, none⟩ (.int .i64 work)) xb 29 (recC (⟨0, work, 0, 0, 3, 0, [], [], [], [], []⟩ : Rec) (⟨⟨none, 0, 0⟩, ⟨none, 0, 0⟩, ⟨none, 0, 0⟩, ⟨none, 0, 0⟩, ⟨none, 0, 0⟩⟩ : RecS))) := Lib.hid (X6.out.set_ 1 (.int .i64 work))
  have R7 := Lib.hid (R6.out.keep tS (fun i e => by omega) (Nat.le_refl _))
  have T7 := Lib.hid (T6.out.trans (W := fun _ => False) tS (fun _ e => e) (fun i e => .inr (by omega)))
  have RB7 := Lib.hid (RB6.out.turned tS (fun e => by omega))
  have hsz7 := Nat.le_trans hsz6 tS.size
  have hmo7 := tS.size
  clear tS X6 R6 T6 RB6
  generalize (w6.setCell ⟨xb, 1, none⟩ (.int .i64 work)) = w7 at *
  refine (H2.out _ R7.out (by omega)).mono ?_
  rintro e w8 ⟨rfl, hR, t⟩
  have R8 := Lib.hid hR
  have T8 := Lib.hid (T7.out.trans (W := fun _ => False) t (fun _ e => e) (fun i e => .inr (by omega)))
  have RB8 := Lib.hid (RB7.out.turned t (fun e => by omega))
  have X8 := Lib.hid (X7.out.turned t (fun e => by omega))
  have hsz8 := Nat.le_trans hsz7 t.size
  have hmo8 := t.size
  clear hR t R7 T7 RB7 X7
  clear x0 x1 x2 x3 x4 x5 x6 x7 x8 x9 x10 xf
  obtain ⟨x0, x1, x2, x3, x4, x5, x6, x7, x8, x9, x10⟩ := RecAt.of_blk (R := (⟨0, work, 0, 0, 3, 0, [], [], [], [], []⟩ : Rec)) (S := (⟨⟨none, 0, 0⟩, ⟨none, 0, 0⟩, ⟨none, 0, 0⟩, ⟨none, 0, 0⟩, ⟨none, 0, 0⟩⟩ : RecS)) X8.out
  simp only at x0 x1 x2 x3 x4 x5 x6 x7 x8 x9 x10
  have xf := X8.out.frozen
  cases hse : s6 with
  | none =>
    rw [hse] at R8
    obtain ⟨Ar, nr, cr, r0, r1⟩ := rdF_end R8.out
    obtain ⟨y0, y1, y2, y3, y4, y5, y6, y7, y8, y9, y10⟩ := RecAt.of_blk (R := Rec.zero) (S := RecS.nil) RB8.out
    simp only [Rec.zero, RecS.nil, Sl.nil] at y0 y1 y2 y3 y4 y5 y6 y7 y8 y9 y10
    have yf := RB8.out.frozen
    have hno := Lib.hid (show getR zs = none by rw [HG.out, hse]; exact fin_none _ _)
    go_wp2_with fail
    have tS := (Turned.refl (fun i => i = xb) w8).setCell (p := ⟨xb, 2, none⟩) (.inl rfl) (.int .i64 prev)
    have TS := Lib.hid (T8.out.trans (W := fun _ => False) tS (fun _ e => e) (fun i e => .inr (by omega)))
    have RBS := Lib.hid (RB8.out.turned tS (fun e => by omega))
    generalize (w8.setCell ⟨xb, 2, none⟩ (.int .i64 prev)) = ws at *
    obtain ⟨wz, hwz, XZ, tZ⟩ := fin11 (.int .i64 0) (.int .i64 0) (.int .i64 0) (.int .i64 0) (.int .u8 0) (.int .i64 0) (.slice none 0 0) (.slice none 0 0) (.slice none 0 0) (.slice none 0 0) (.slice none 0 0) RBS.out
    rw [hwz]
    clear hwz
    have TZ := TS.out.trans (W := fun _ => False) tZ (fun _ e => e) (fun i e => .inr (by omega))
    obtain ⟨e0, e1, e2, e3, e4, e5, e6, e7, e8, e9, e10⟩ := XZ.cells11
    refine bodyPost_ret (v := .tuple #[.agg #[.int .i64 0, .int .i64 0, .int .i64 0, .int .i64 0, .int .u8 0, .int .i64 0, .slice none 0 0, .slice none 0 0, .slice none 0 0, .slice none 0 0, .slice none 0 0], .int .i64 0, .int .i64 4]) (by simp [results, Tryz.results21, go_sem, e0, e1, e2, e3, e4, e5, e6, e7, e8, e9, e10]) rfl ?_
    exact .inr ⟨hno.out, rfl, TZ⟩
  | some ys =>
    cases ys with
    | cons y ys =>
      rw [hse] at R8
      obtain ⟨Ar, nr, cr, r0, r1, hn1, hn2⟩ := rdF_some R8.out
      have hn3 : (0 : Int) < (nr : Int) := by rw [hn1, List.length_cons]; omega
      have hn4 : 0 < nr := by omega
      clear hn1
      obtain ⟨y0, y1, y2, y3, y4, y5, y6, y7, y8, y9, y10⟩ := RecAt.of_blk (R := Rec.zero) (S := RecS.nil) RB8.out
      simp only [Rec.zero, RecS.nil, Sl.nil] at y0 y1 y2 y3 y4 y5 y6 y7 y8 y9 y10
      have yf := RB8.out.frozen
      have hno := Lib.hid (show getR zs = none by rw [HG.out, hse]; exact fin_more _ _ _ _)
      go_wp2_with fail
      have tS := (Turned.refl (fun i => i = xb) w8).setCell (p := ⟨xb, 2, none⟩) (.inl rfl) (.int .i64 prev)
      have TS := Lib.hid (T8.out.trans (W := fun _ => False) tS (fun _ e => e) (fun i e => .inr (by omega)))
      have RBS := Lib.hid (RB8.out.turned tS (fun e => by omega))
      generalize (w8.setCell ⟨xb, 2, none⟩ (.int .i64 prev)) = ws at *
      obtain ⟨wz, hwz, XZ, tZ⟩ := fin11 (.int .i64 0) (.int .i64 0) (.int .i64 0) (.int .i64 0) (.int .u8 0) (.int .i64 0) (.slice none 0 0) (.slice none 0 0) (.slice none 0 0) (.slice none 0 0) (.slice none 0 0) RBS.out
      rw [hwz]
      clear hwz
      have TZ := TS.out.trans (W := fun _ => False) tZ (fun _ e => e) (fun i e => .inr (by omega))
      obtain ⟨e0, e1, e2, e3, e4, e5, e6, e7, e8, e9, e10⟩ := XZ.cells11
      refine bodyPost_ret (v := .tuple #[.agg #[.int .i64 0, .int .i64 0, .int .i64 0, .int .i64 0, .int .u8 0, .int .i64 0, .slice none 0 0, .slice none 0 0, .slice none 0 0, .slice none 0 0, .slice none 0 0], .int .i64 0, .int .i64 4]) (by simp [results, Tryz.results21, go_sem, e0, e1, e2, e3, e4, e5, e6, e7, e8, e9, e10]) rfl ?_
      exact .inr ⟨hno.out, rfl, TZ⟩
    | nil =>
      rw [hse] at R8
      obtain ⟨Ar, nr, cr, r0, r1, hn1, hn2⟩ := rdF_some R8.out
      obtain rfl : nr = 0 := hn1
      obtain ⟨y0, y1, y2, y3, y4, y5, y6, y7, y8, y9, y10⟩ := RecAt.of_blk (R := Rec.zero) (S := RecS.nil) RB8.out
      simp only [Rec.zero, RecS.nil, Sl.nil] at y0 y1 y2 y3 y4 y5 y6 y7 y8 y9 y10
      have yf := RB8.out.frozen
      go_wp2_with fail
      have tS := (Turned.refl (fun i => i = xb) w8).setCell (p := ⟨xb, 2, none⟩) (.inl rfl) (.int .i64 prev)
      have T9 := Lib.hid (T8.out.trans (W := fun _ => False) tS (fun _ e => e) (fun i e => .inr (by omega)))
      have RB9 := Lib.hid (RB8.out.turned tS (fun e => by omega))
      have X9 : Hid (Blk (w8.setCell ⟨xb, 2, none⟩ (.int .i64 prev)) xb 29 (recC (⟨0, work, prev, 0, 3, 0, [], [], [], [], []⟩ : Rec) (⟨⟨none, 0, 0⟩, ⟨none, 0, 0⟩, ⟨none, 0, 0⟩, ⟨none, 0, 0⟩, ⟨none, 0, 0⟩⟩ : RecS))) := Lib.hid (X8.out.set_ 2 (.int .i64 prev))
      generalize (w8.setCell ⟨xb, 2, none⟩ (.int .i64 prev)) = w9 at *
      clear tS X8 T8 RB8
      have hOwn : RecOwn w9 w.heap.size (⟨0, work, prev, 0, 3, 0, [], [], [], [], []⟩ : Rec) (⟨⟨none, 0, 0⟩, ⟨none, 0, 0⟩, ⟨none, 0, 0⟩, ⟨none, 0, 0⟩, ⟨none, 0, 0⟩⟩ : RecS) := ⟨OwnV.nil _, OwnV.nil _, OwnV.nil _, OwnE.nil _ _ _, OwnE.nil _ _ _, (fun g e => by cases e), (fun g e => by cases e), (fun g e => by cases e), (fun g e => by cases e), (fun g e => by cases e), (fun g e => by cases e), (fun g e => by cases e), (fun g e => by cases e), ⟨Nat.zero_le _, Nat.zero_le _, Nat.zero_le _, Nat.zero_le _, Nat.zero_le _⟩⟩
      have hRt := fright_any (⟨0, work, prev, 0, 3, 0, [], [], [], [], []⟩ : Rec) (⟨⟨none, 0, 0⟩, ⟨none, 0, 0⟩, ⟨none, 0, 0⟩, ⟨none, 0, 0⟩, ⟨none, 0, 0⟩⟩ : RecS) w9 hOwn.is
      have HO := Lib.hid hOwn
      unfold recC at hRt
      simp only at hRt
      clear hOwn y0 y1 y2 y3 y4 y5 y6 y7 y8 y9 y10 yf r0 r1 hn2
      cases hrr : rightR (⟨0, work, prev, 0, 3, 0, [], [], [], [], []⟩ : Rec) with
      | false =>
        rw [hrr] at hRt
        refine hRt.mono ?_
        rintro e wq ⟨rfl, tq⟩
        have TQ := Lib.hid (T9.out.and_ tq)
        have RBQ := Lib.hid (RB9.out.turned tq (fun e => e))
        have XQ := Lib.hid (X9.out.turned tq (fun e => e))
        have HOQ := Lib.hid (HO.out.fresh tq)
        clear x0 x1 x2 x3 x4 x5 x6 x7 x8 x9 x10 xf
        obtain ⟨y0, y1, y2, y3, y4, y5, y6, y7, y8, y9, y10⟩ := RecAt.of_blk (R := Rec.zero) (S := RecS.nil) RBQ.out
        simp only [Rec.zero, RecS.nil, Sl.nil] at y0 y1 y2 y3 y4 y5 y6 y7 y8 y9 y10
        have yf := RBQ.out.frozen
        obtain ⟨x0, x1, x2, x3, x4, x5, x6, x7, x8, x9, x10⟩ := RecAt.of_blk (R := (⟨0, work, prev, 0, 3, 0, [], [], [], [], []⟩ : Rec)) (S := (⟨⟨none, 0, 0⟩, ⟨none, 0, 0⟩, ⟨none, 0, 0⟩, ⟨none, 0, 0⟩, ⟨none, 0, 0⟩⟩ : RecS)) XQ.out
        simp only at x0 x1 x2 x3 x4 x5 x6 x7 x8 x9 x10
        have xf := XQ.out.frozen
        have hno := Lib.hid (show getR zs = none by rw [HG.out, hse]; exact fin_no hrr)
        clear hrr tq hRt
        go_wp2_with fail
        obtain ⟨wz, hwz, XZ, tZ⟩ := fin11 (.int .i64 0) (.int .i64 0) (.int .i64 0) (.int .i64 0) (.int .u8 0) (.int .i64 0) (.slice none 0 0) (.slice none 0 0) (.slice none 0 0) (.slice none 0 0) (.slice none 0 0) RBQ.out
        rw [hwz]
        clear hwz
        have TZ := TQ.out.trans (W := fun _ => False) tZ (fun _ e => e) (fun i e => .inr (by omega))
        obtain ⟨e0, e1, e2, e3, e4, e5, e6, e7, e8, e9, e10⟩ := XZ.cells11
        refine bodyPost_ret (v := .tuple #[.agg #[.int .i64 0, .int .i64 0, .int .i64 0, .int .i64 0, .int .u8 0, .int .i64 0, .slice none 0 0, .slice none 0 0, .slice none 0 0, .slice none 0 0, .slice none 0 0], .int .i64 0, .int .i64 4]) (by simp [results, Tryz.results21, go_sem, e0, e1, e2, e3, e4, e5, e6, e7, e8, e9, e10]) rfl ?_
        exact .inr ⟨hno.out, rfl, TZ⟩
      | true =>
        rw [hrr] at hRt
        refine hRt.mono ?_
        rintro e wq ⟨rfl, tq⟩
        have TQ := Lib.hid (T9.out.and_ tq)
        have RBQ := Lib.hid (RB9.out.turned tq (fun e => e))
        have XQ := Lib.hid (X9.out.turned tq (fun e => e))
        have HOQ := Lib.hid (HO.out.fresh tq)
        clear x0 x1 x2 x3 x4 x5 x6 x7 x8 x9 x10 xf
        obtain ⟨y0, y1, y2, y3, y4, y5, y6, y7, y8, y9, y10⟩ := RecAt.of_blk (R := Rec.zero) (S := RecS.nil) RBQ.out
        simp only [Rec.zero, RecS.nil, Sl.nil] at y0 y1 y2 y3 y4 y5 y6 y7 y8 y9 y10
        have yf := RBQ.out.frozen
        obtain ⟨x0, x1, x2, x3, x4, x5, x6, x7, x8, x9, x10⟩ := RecAt.of_blk (R := (⟨0, work, prev, 0, 3, 0, [], [], [], [], []⟩ : Rec)) (S := (⟨⟨none, 0, 0⟩, ⟨none, 0, 0⟩, ⟨none, 0, 0⟩, ⟨none, 0, 0⟩, ⟨none, 0, 0⟩⟩ : RecS)) XQ.out
        simp only at x0 x1 x2 x3 x4 x5 x6 x7 x8 x9 x10
        have xf := XQ.out.frozen
        have hys := Lib.hid (show getR zs = some ((⟨0, work, prev, 0, 3, 0, [], [], [], [], []⟩ : Rec), 2 + m) by rw [HG.out, hse]; exact fin_yes hrr)
        clear hrr HG tq hRt
        go_wp2_with fail
        obtain ⟨wz, hwz, XZ, tZ⟩ := fin11 (.int .i64 0) (.int .i64 work) (.int .i64 prev) (.int .i64 0) (.int .u8 3) (.int .i64 0) (.slice none 0 0) (.slice none 0 0) (.slice none 0 0) (.slice none 0 0) (.slice none 0 0) RBQ.out
        rw [hwz]
        clear hwz
        have TZ := TQ.out.trans (W := fun _ => False) tZ (fun _ e => e) (fun i e => .inr (by omega))
        obtain ⟨e0, e1, e2, e3, e4, e5, e6, e7, e8, e9, e10⟩ := XZ.cells11
        refine bodyPost_ret (v := .tuple #[.agg #[.int .i64 0, .int .i64 work, .int .i64 prev, .int .i64 0, .int .u8 3, .int .i64 0, .slice none 0 0, .slice none 0 0, .slice none 0 0, .slice none 0 0, .slice none 0 0], .int .i64 (2 + (m : Int)), .int .i64 0]) (by simp [results, Tryz.results21, go_sem, e0, e1, e2, e3, e4, e5, e6, e7, e8, e9, e10]) rfl ?_
        have HZ : RecOwn wz w.heap.size (⟨0, work, prev, 0, 3, 0, [], [], [], [], []⟩ : Rec) (⟨⟨none, 0, 0⟩, ⟨none, 0, 0⟩, ⟨none, 0, 0⟩, ⟨none, 0, 0⟩, ⟨none, 0, 0⟩⟩ : RecS) := HOQ.out.moved tZ (fun i e => by omega) RBQ.out (by decide) (by decide) (by decide)
        exact .inl ⟨_, 2 + m, (⟨⟨none, 0, 0⟩, ⟨none, 0, 0⟩, ⟨none, 0, 0⟩, ⟨none, 0, 0⟩, ⟨none, 0, 0⟩⟩ : RecS), hys.out, by rw [Int.natCast_add]; rfl, HZ, TZ⟩
set_option maxRecDepth 100000 in
set_option maxHeartbeats 2000000 in
theorem fget_4 (A : Option Addr) (n c : Nat) (zs : List Int) (w : World) (h : BytS w A n c zs) (hb : ∀ z ∈ zs, isByte z) (hnc : n ≤ c) (hc : c ≤ maxLen) (hn6 : n ≤ 1000000) (hk : kindOf zs = 4) : Calls Tryz.prog 21 #[.slice A n c] w (RGet zs w) := by
  have hbS : ∀ ys, (some zs : Option (List Int)) = some ys → ∀ y ∈ ys, isByte y := fun ys e y hy => by injection e with e; subst e; exact hb y hy
  obtain ⟨m, hm, hm2⟩ := numS2_nat (some zs) hbS
  have hG : getR zs = finR m (restS (kindOf zs) (numS 1 (inS m (numS 2 (some zs)).2)).2) := by
    unfold getR getS kindOf
    rw [hm, Int.toNat_natCast]
  have hkd : (numS 1 (inS m (numS 2 (some zs)).2)).1 = kindOf zs := by
    unfold kindOf
    rw [hm, Int.toNat_natCast]
  obtain ⟨kk, hkk, hk255⟩ := numS1_nat (inS m (numS 2 (some zs)).2) (inS_bytes (numS_bytes hbS))
  rw [hkd] at hkk
  rw [hk] at hG
  clear hkk hk255
  have hcm := hc
  unfold maxLen at hcm
  have hpl : 0 < n → PlF (w.heap.size + 1) (w.heap.size + 2) A := fun h0 => by
    obtain ⟨b, off, e, hcl⟩ := h.cell h0
    have := World.block_lt_of_cell? w ⟨b, off + 0, none⟩ (hcl 0 h0)
    exact .inr ⟨b, off, e, by simp at this; omega, by simp at this; omega⟩
  have hRB := (Blk.new w 29 #[.int .i64 0, .int .i64 0, .int .i64 0, .int .i64 0, .int .u8 0, .int .i64 0, .slice none 0 0, .slice none 0 0, .slice none 0 0, .slice none 0 0, .slice none 0 0]).alloc (.cells #[.slice A n c, .bool false] 118)
  have hRd : RdF ((w.alloc (.cells #[.int .i64 0, .int .i64 0, .int .i64 0, .int .i64 0, .int .u8 0, .int .i64 0, .slice none 0 0, .slice none 0 0, .slice none 0 0, .slice none 0 0, .slice none 0 0] 29)).alloc (.cells #[.slice A n c, .bool false] 118)) (w.heap.size + 1) A n c false := Blk.new_at _ _ _ (by simp)
  have hT := ((Turned.refl (fun _ => False) w).alloc (.cells #[.int .i64 0, .int .i64 0, .int .i64 0, .int .i64 0, .int .u8 0, .int .i64 0, .slice none 0 0, .slice none 0 0, .slice none 0 0, .slice none 0 0, .slice none 0 0] 29)).alloc (.cells #[.slice A n c, .bool false] 118)
  have hs0 : ((w.alloc (.cells #[.int .i64 0, .int .i64 0, .int .i64 0, .int .i64 0, .int .u8 0, .int .i64 0, .slice none 0 0, .slice none 0 0, .slice none 0 0, .slice none 0 0, .slice none 0 0] 29)).alloc (.cells #[.slice A n c, .bool false] 118)).heap.size = w.heap.size + 2 := by simp
  have hN1 : Calls Tryz.prog 61 #[.pointer (some ⟨w.heap.size + 1, 0, none⟩), .int .i64 (2 : Nat)] ((w.alloc (.cells #[.int .i64 0, .int .i64 0, .int .i64 0, .int .i64 0, .int .u8 0, .int .i64 0, .slice none 0 0, .slice none 0 0, .slice none 0 0, .slice none 0 0, .slice none 0 0] 29)).alloc (.cells #[.slice A n c, .bool false] 118)) (NmPost (w.heap.size + 1) (w.heap.size + 2) 2 (some zs) ((w.alloc (.cells #[.int .i64 0, .int .i64 0, .int .i64 0, .int .i64 0, .int .u8 0, .int .i64 0, .slice none 0 0, .slice none 0 0, .slice none 0 0, .slice none 0 0, .slice none 0 0] 29)).alloc (.cells #[.slice A n c, .bool false] 118))) := by
    rcases Nat.lt_or_ge n 2 with hlt | hge
    · exact fnum_by _ _ 2 (some zs) _ (ftake_short _ _ A n c 2 false _ hRd (by omega) (by omega) (by omega) (.inr hlt) (some zs) (takeS_short (by rw [h.len]; exact hlt))) (by omega) hbS
    · exact fnum_any _ _ 2 (some zs) _ ⟨by omega, A, n, c, hRd, h.turned hT (fun _ _ _ e => e), hnc, hc, hpl (by omega), hn6⟩ (by omega) (by omega) hbS
  unfold NmPost at hN1
  rw [hm] at hN1
  have hb1 := Lib.hid (numS_bytes (k := 2) hbS)
  have hN1' := Lib.hid hN1
  have RB0 := Lib.hid hRB
  have T0 := Lib.hid hT
  have HG := Lib.hid hG
  have HKD := Lib.hid hkd
  clear hN1 hRB hRd hT hG hkd hm hpl h hb hbS
  generalize (numS 2 (some zs)).2 = s1 at *
  go_enter Tryz.func21, Tryz.ntmps21
  go_wp2_with fail
  generalize ((w.alloc (.cells #[.int .i64 0, .int .i64 0, .int .i64 0, .int .i64 0, .int .u8 0, .int .i64 0, .slice none 0 0, .slice none 0 0, .slice none 0 0, .slice none 0 0, .slice none 0 0] 29)).alloc (.cells #[.slice A n c, .bool false] 118)) = w0 at *
  refine hN1'.out.mono ?_
  rintro e w1 ⟨rfl, hR1, t1⟩
  have R1 := Lib.hid hR1
  have hsz1 : w.heap.size + 2 ≤ w1.heap.size := by have := t1.size; omega
  have T1 := Lib.hid (T0.out.trans (W := fun _ => False) t1 (fun _ e => e) (fun i e => .inr (by omega)))
  have RB1 := Lib.hid (RB0.out.turned t1 (fun e => by omega))
  clear hR1 t1 T0 RB0 hN1'
  go_wp2_with fail
  refine (ftake_any (w.heap.size + 1) _ m s1 w1 R1.out (by omega)).mono ?_
  rintro e w2 ⟨A2, c2, rfl, hy2, hg2, hR2, t2⟩
  obtain ⟨B, hBB⟩ : ∃ B, B = w2.heap.size := ⟨_, rfl⟩
  have R3 := Lib.hid (isF_in hy2 (fun g e => by have := hg2 g e; omega) hR2 (Nat.le_of_eq hBB.symm) (by omega))
  obtain ⟨A3, n3, c3, sh3, hq3⟩ := rdF_blk hR2
  have q0 : w2.cell? ⟨w.heap.size + 1, 0, none⟩ = some (.slice A3 n3 c3) := hq3.cell 0
  have f0 := hq3.frozen 0
  have t3 := t2.setCell (p := ⟨w.heap.size + 1, 0, none⟩) (.inl rfl) (.slice A2 (takeS m s1).1.length c2)
  have hsz2 : w.heap.size + 2 ≤ w2.heap.size := by have := t2.size; omega
  have hsB : (w2.setCell ⟨w.heap.size + 1, 0, none⟩ (.slice A2 (takeS m s1).1.length c2)).heap.size = B := by rw [hBB]; simp [World.setCell]
  have T3 := Lib.hid (T1.out.trans (W := fun _ => False) t3 (fun _ e => e) (fun i e => .inr (by omega)))
  have RB3 := Lib.hid (RB1.out.turned t3 (fun e => by omega))
  have hB2 : w.heap.size + 2 ≤ B := by omega
  have hBB := Lib.hid hBB
  clear hy2 hg2 hR2 t2 t3 hq3 R1 T1 RB1 hBB
  go_wp2_with fail
  generalize w2.setCell ⟨w.heap.size + 1, 0, none⟩ (.slice A2 (takeS m s1).1.length c2) = w3 at *
  have hN3 := fnum_any (w.heap.size + 1) B 1 (inS m s1) w3 R3.out (by omega) (by omega) (inS_bytes hb1.out)
  unfold NmPost at hN3
  rw [HKD.out, hk] at hN3
  refine hN3.mono ?_
  rintro e w4 ⟨rfl, hR4, t4⟩
  have R4 := Lib.hid hR4
  have hB4 : B ≤ w4.heap.size := by have := t4.size; omega
  have T4 := Lib.hid (T3.out.trans (W := fun _ => False) t4 (fun _ e => e) (fun i e => .inr (by omega)))
  have RB4 := Lib.hid (RB3.out.turned t4 (fun e => by omega))
  have hb4 := Lib.hid (numS_bytes (k := 1) (inS_bytes hb1.out (k := m)))
  clear hR4 t4 T3 RB3 R3 q0 f0 hN3 hb1 hsB
  generalize (numS 1 (inS m s1)).2 = s4 at *
  clear HKD
  have hwr : w.heap.size < w.heap.size + 1 := by omega
  have HG := Lib.hid (show getR zs = finR m ((⟨0, (numS 8 s4).1, (numS 8 (numS 8 s4).2).1, 0, 4, 0, [], [], [], [], []⟩ : Rec), (numS 8 (numS 8 s4).2).2) from HG.out)
  generalize w.heap.size + 1 = r at *
  have H1 := Lib.hid (fun (w' : World) (h : IsF w' r B s4) (hB : B ≤ w'.heap.size) => fnum_any r B 8 s4 w' h hB (by omega) hb4.out)
  have hb5 := Lib.hid (numS_bytes (k := 8) hb4.out)
  unfold NmPost at H1
  generalize (numS 8 s4).1 = work at *
  generalize (numS 8 s4).2 = s5 at *
  clear hb4
  have H2 := Lib.hid (fun (w' : World) (h : IsF w' r B s5) (hB : B ≤ w'.heap.size) => fnum_any r B 8 s5 w' h hB (by omega) hb5.out)
  have hb6 := Lib.hid (numS_bytes (k := 8) hb5.out)
  unfold NmPost at H2
  generalize (numS 8 s5).1 = prev at *
  generalize (numS 8 s5).2 = s6 at *
  clear hb5
  have X5 := Lib.hid (Blk.new w4 29 (recC (⟨0, 0, 0, 0, 4, 0, [], [], [], [], []⟩ : Rec) (⟨⟨none, 0, 0⟩, ⟨none, 0, 0⟩, ⟨none, 0, 0⟩, ⟨none, 0, 0⟩, ⟨none, 0, 0⟩⟩ : RecS)))
  have t5 := (Turned.refl (fun _ => False) w4).alloc (.cells (recC (⟨0, 0, 0, 0, 4, 0, [], [], [], [], []⟩ : Rec) (⟨⟨none, 0, 0⟩, ⟨none, 0, 0⟩, ⟨none, 0, 0⟩, ⟨none, 0, 0⟩, ⟨none, 0, 0⟩⟩ : RecS)) 29)
  have hsz5 : w4.heap.size + 1 ≤ (w4.alloc (.cells (recC (⟨0, 0, 0, 0, 4, 0, [], [], [], [], []⟩ : Rec) (⟨⟨none, 0, 0⟩, ⟨none, 0, 0⟩, ⟨none, 0, 0⟩, ⟨none, 0, 0⟩, ⟨none, 0, 0⟩⟩ : RecS)) 29)).heap.size := by simp
  have R5 := Lib.hid (R4.out.fresh t5 (Nat.le_refl _))
  have hrB := R4.out.lt.2
  have T5 := Lib.hid (T4.out.and_ t5)
  have RB5 := Lib.hid (RB4.out.turned t5 (fun e => e))
  clear t5 R4 T4 RB4
  unfold recC at X5 hsz5 R5 T5 RB5
  simp only at X5 hsz5 R5 T5 RB5
  go_wp2_with fail
  generalize w4.alloc (.cells #[.int .i64 0, .int .i64 0, .int .i64 0, .int .i64 0, .int .u8 4, .int .i64 0, .slice none 0 0, .slice none 0 0, .slice none 0 0, .slice none 0 0, .slice none 0 0] 29) = w5 at *
  generalize w4.heap.size = xb at *
  have hne1 : ¬ (r = xb) := by omega
  have hne2 : ¬ (xb = r) := by omega
  have hne3 : ¬ (w.heap.size = xb) := by omega
  have hne4 : ¬ (xb = w.heap.size) := by omega
  have hne5 : ¬ (w.heap.size = r) := by omega
  have hne6 : ¬ (r = w.heap.size) := by omega
  have RB5 : Hid (Blk w5 w.heap.size 29 (recC Rec.zero RecS.nil)) := RB5
  obtain ⟨x0, x1, x2, x3, x4, x5, x6, x7, x8, x9, x10⟩ := RecAt.of_blk (R := (⟨0, 0, 0, 0, 4, 0, [], [], [], [], []⟩ : Rec)) (S := (⟨⟨none, 0, 0⟩, ⟨none, 0, 0⟩, ⟨none, 0, 0⟩, ⟨none, 0, 0⟩, ⟨none, 0, 0⟩⟩ : RecS)) X5.out
  simp only at x0 x1 x2 x3 x4 x5 x6 x7 x8 x9 x10
  have xf := X5.out.frozen
  refine (H1.out _ R5.out (by omega)).mono ?_
  rintro e w6 ⟨rfl, hR, t⟩
  have R6 := Lib.hid hR
  have T6 := Lib.hid (T5.out.trans (W := fun _ => False) t (fun _ e => e) (fun i e => .inr (by omega)))
  have RB6 := Lib.hid (RB5.out.turned t (fun e => by omega))
  have X6 := Lib.hid (X5.out.turned t (fun e => by omega))
  have hsz6 := Nat.le_trans hsz5 t.size
  have hmo6 := t.size
  clear hR t R5 T5 RB5 X5
  clear x0 x1 x2 x3 x4 x5 x6 x7 x8 x9 x10 xf
  obtain ⟨x0, x1, x2, x3, x4, x5, x6, x7, x8, x9, x10⟩ := RecAt.of_blk (R := (⟨0, 0, 0, 0, 4, 0, [], [], [], [], []⟩ : Rec)) (S := (⟨⟨none, 0, 0⟩, ⟨none, 0, 0⟩, ⟨none, 0, 0⟩, ⟨none, 0, 0⟩, ⟨none, 0, 0⟩⟩ : RecS)) X6.out
  simp only at x0 x1 x2 x3 x4 x5 x6 x7 x8 x9 x10
  have xf := X6.out.frozen
  go_wp2_with fail
  have tS := (Turned.refl (fun i => i = xb) w6).setCell (p := ⟨xb, 1, none⟩) (.inl rfl) (.int .i64 work)
  have X7 : Hid (Blk (w6.setCell ⟨xb, 1, none⟩ (.int .i64 work)) xb 29 (recC (⟨0, work, 0, 0, 4, 0, [], [], [], [], []⟩ : Rec) (⟨⟨none, 0, 0⟩, ⟨none, 0, 0⟩, ⟨none, 0, 0⟩, ⟨none, 0, 0⟩, ⟨none, 0, 0⟩⟩ : RecS))) := Lib.hid (X6.out.set_ 1 (.int .i64 work))
  have R7 := Lib.hid (R6.out.keep tS (fun i e => by omega) (Nat.le_refl _))
  have T7 := Lib.hid (T6.out.trans (W := fun _ => False) tS (fun _ e => e) (fun i e => .inr (by omega)))
  have RB7 := Lib.hid (RB6.out.turned tS (fun e => by omega))
  have hsz7 := Nat.le_trans hsz6 tS.size
  have hmo7 := tS.size
  clear tS X6 R6 T6 RB6
  generalize (w6.setCell ⟨xb, 1, none⟩ (.int .i64 work)) = w7 at *
  refine (H2.out _ R7.out (by omega)).mono ?_
  rintro e w8 ⟨rfl, hR, t⟩
  have R8 := Lib.hid hR
  have T8 := Lib.hid (T7.out.trans (W := fun _ => False) t (fun _ e => e) (fun i e => .inr (by omega)))
  have RB8 := Lib.hid (RB7.out.turned t (fun e => by omega))
  have X8 := Lib.hid (X7.out.turned t (fun e => by omega))
  have hsz8 := Nat.le_trans hsz7 t.size
  have hmo8 := t.size
  clear hR t R7 T7 RB7 X7
  clear x0 x1 x2 x3 x4 x5 x6 x7 x8 x9 x10 xf
  obtain ⟨x0, x1, x2, x3, x4, x5, x6, x7, x8, x9, x10⟩ := RecAt.of_blk (R := (⟨0, work, 0, 0, 4, 0, [], [], [], [], []⟩ : Rec)) (S := (⟨⟨none, 0, 0⟩, ⟨none, 0, 0⟩, ⟨none, 0, 0⟩, ⟨none, 0, 0⟩, ⟨none, 0, 0⟩⟩ : RecS)) X8.out
  simp only at x0 x1 x2 x3 x4 x5 x6 x7 x8 x9 x10
  have xf := X8.out.frozen
  cases hse : s6 with
  | none =>
    rw [hse] at R8
    obtain ⟨Ar, nr, cr, r0, r1⟩ := rdF_end R8.out
    obtain ⟨y0, y1, y2, y3, y4, y5, y6, y7, y8, y9, y10⟩ := RecAt.of_blk (R := Rec.zero) (S := RecS.nil) RB8.out
    simp only [Rec.zero, RecS.nil, Sl.nil] at y0 y1 y2 y3 y4 y5 y6 y7 y8 y9 y10
    have yf := RB8.out.frozen
    have hno := Lib.hid (show getR zs = none by rw [HG.out, hse]; exact fin_none _ _)
    go_wp2_with fail
    have tS := (Turned.refl (fun i => i = xb) w8).setCell (p := ⟨xb, 2, none⟩) (.inl rfl) (.int .i64 prev)
    have TS := Lib.hid (T8.out.trans (W := fun _ => False) tS (fun _ e => e) (fun i e => .inr (by omega)))
    have RBS := Lib.hid (RB8.out.turned tS (fun e => by omega))
    generalize (w8.setCell ⟨xb, 2, none⟩ (.int .i64 prev)) = ws at *
    obtain ⟨wz, hwz, XZ, tZ⟩ := fin11 (.int .i64 0) (.int .i64 0) (.int .i64 0) (.int .i64 0) (.int .u8 0) (.int .i64 0) (.slice none 0 0) (.slice none 0 0) (.slice none 0 0) (.slice none 0 0) (.slice none 0 0) RBS.out
    rw [hwz]
    clear hwz
    have TZ := TS.out.trans (W := fun _ => False) tZ (fun _ e => e) (fun i e => .inr (by omega))
    obtain ⟨e0, e1, e2, e3, e4, e5, e6, e7, e8, e9, e10⟩ := XZ.cells11
    refine bodyPost_ret (v := .tuple #[.agg #[.int .i64 0, .int .i64 0, .int .i64 0, .int .i64 0, .int .u8 0, .int .i64 0, .slice none 0 0, .slice none 0 0, .slice none 0 0, .slice none 0 0, .slice none 0 0], .int .i64 0, .int .i64 4]) (by simp [results, Tryz.results21, go_sem, e0, e1, e2, e3, e4, e5, e6, e7, e8, e9, e10]) rfl ?_
    exact .inr ⟨hno.out, rfl, TZ⟩
  | some ys =>
    cases ys with
    | cons y ys =>
      rw [hse] at R8
      obtain ⟨Ar, nr, cr, r0, r1, hn1, hn2⟩ := rdF_some R8.out
      have hn3 : (0 : Int) < (nr : Int) := by rw [hn1, List.length_cons]; omega
      have hn4 : 0 < nr := by omega
      clear hn1
      obtain ⟨y0, y1, y2, y3, y4, y5, y6, y7, y8, y9, y10⟩ := RecAt.of_blk (R := Rec.zero) (S := RecS.nil) RB8.out
      simp only [Rec.zero, RecS.nil, Sl.nil] at y0 y1 y2 y3 y4 y5 y6 y7 y8 y9 y10
      have yf := RB8.out.frozen
      have hno := Lib.hid (show getR zs = none by rw [HG.out, hse]; exact fin_more _ _ _ _)
      go_wp2_with fail
      have tS := (Turned.refl (fun i => i = xb) w8).setCell (p := ⟨xb, 2, none⟩) (.inl rfl) (.int .i64 prev)
      have TS := Lib.hid (T8.out.trans (W := fun _ => False) tS (fun _ e => e) (fun i e => .inr (by omega)))
      have RBS := Lib.hid (RB8.out.turned tS (fun e => by omega))
      generalize (w8.setCell ⟨xb, 2, none⟩ (.int .i64 prev)) = ws at *
      obtain ⟨wz, hwz, XZ, tZ⟩ := fin11 (.int .i64 0) (.int .i64 0) (.int .i64 0) (.int .i64 0) (.int .u8 0) (.int .i64 0) (.slice none 0 0) (.slice none 0 0) (.slice none 0 0) (.slice none 0 0) (.slice none 0 0) RBS.out
      rw [hwz]
      clear hwz
      have TZ := TS.out.trans (W := fun _ => False) tZ (fun _ e => e) (fun i e => .inr (by omega))
      obtain ⟨e0, e1, e2, e3, e4, e5, e6, e7, e8, e9, e10⟩ := XZ.cells11
      refine bodyPost_ret (v := .tuple #[.agg #[.int .i64 0, .int .i64 0, .int .i64 0, .int .i64 0, .int .u8 0, .int .i64 0, .slice none 0 0, .slice none 0 0, .slice none 0 0, .slice none 0 0, .slice none 0 0], .int .i64 0, .int .i64 4]) (by simp [results, Tryz.results21, go_sem, e0, e1, e2, e3, e4, e5, e6, e7, e8, e9, e10]) rfl ?_
      exact .inr ⟨hno.out, rfl, TZ⟩
    | nil =>
      rw [hse] at R8
      obtain ⟨Ar, nr, cr, r0, r1, hn1, hn2⟩ := rdF_some R8.out
      obtain rfl : nr = 0 := hn1
      obtain ⟨y0, y1, y2, y3, y4, y5, y6, y7, y8, y9, y10⟩ := RecAt.of_blk (R := Rec.zero) (S := RecS.nil) RB8.out
      simp only [Rec.zero, RecS.nil, Sl.nil] at y0 y1 y2 y3 y4 y5 y6 y7 y8 y9 y10
      have yf := RB8.out.frozen
      go_wp2_with fail
      have tS := (Turned.refl (fun i => i = xb) w8).setCell (p := ⟨xb, 2, none⟩) (.inl rfl) (.int .i64 prev)
      have T9 := Lib.hid (T8.out.trans (W := fun _ => False) tS (fun _ e => e) (fun i e => .inr (by omega)))
      have RB9 := Lib.hid (RB8.out.turned tS (fun e => by omega))
      have X9 : Hid (Blk (w8.setCell ⟨xb, 2, none⟩ (.int .i64 prev)) xb 29 (recC (⟨0, work, prev, 0, 4, 0, [], [], [], [], []⟩ : Rec) (⟨⟨none, 0, 0⟩, ⟨none, 0, 0⟩, ⟨none, 0, 0⟩, ⟨none, 0, 0⟩, ⟨none, 0, 0⟩⟩ : RecS))) := Lib.hid (X8.out.set_ 2 (.int .i64 prev))
      generalize (w8.setCell ⟨xb, 2, none⟩ (.int .i64 prev)) = w9 at *
      clear tS X8 T8 RB8
      have hOwn : RecOwn w9 w.heap.size (⟨0, work, prev, 0, 4, 0, [], [], [], [], []⟩ : Rec) (⟨⟨none, 0, 0⟩, ⟨none, 0, 0⟩, ⟨none, 0, 0⟩, ⟨none, 0, 0⟩, ⟨none, 0, 0⟩⟩ : RecS) := ⟨OwnV.nil _, OwnV.nil _, OwnV.nil _, OwnE.nil _ _ _, OwnE.nil _ _ _, (fun g e => by cases e), (fun g e => by cases e), (fun g e => by cases e), (fun g e => by cases e), (fun g e => by cases e), (fun g e => by cases e), (fun g e => by cases e), (fun g e => by cases e), ⟨Nat.zero_le _, Nat.zero_le _, Nat.zero_le _, Nat.zero_le _, Nat.zero_le _⟩⟩
      have hRt := fright_any (⟨0, work, prev, 0, 4, 0, [], [], [], [], []⟩ : Rec) (⟨⟨none, 0, 0⟩, ⟨none, 0, 0⟩, ⟨none, 0, 0⟩, ⟨none, 0, 0⟩, ⟨none, 0, 0⟩⟩ : RecS) w9 hOwn.is
      have HO := Lib.hid hOwn
      unfold recC at hRt
      simp only at hRt
      clear hOwn y0 y1 y2 y3 y4 y5 y6 y7 y8 y9 y10 yf r0 r1 hn2
      cases hrr : rightR (⟨0, work, prev, 0, 4, 0, [], [], [], [], []⟩ : Rec) with
      | false =>
        rw [hrr] at hRt
        refine hRt.mono ?_
        rintro e wq ⟨rfl, tq⟩
        have TQ := Lib.hid (T9.out.and_ tq)
        have RBQ := Lib.hid (RB9.out.turned tq (fun e => e))
        have XQ := Lib.hid (X9.out.turned tq (fun e => e))
        have HOQ := Lib.hid (HO.out.fresh tq)
        clear x0 x1 x2 x3 x4 x5 x6 x7 x8 x9 x10 xf
        obtain ⟨y0, y1, y2, y3, y4, y5, y6, y7, y8, y9, y10⟩ := RecAt.of_blk (R := Rec.zero) (S := RecS.nil) RBQ.out
        simp only [Rec.zero, RecS.nil, Sl.nil] at y0 y1 y2 y3 y4 y5 y6 y7 y8 y9 y10
        have yf := RBQ.out.frozen
        obtain ⟨x0, x1, x2, x3, x4, x5, x6, x7, x8, x9, x10⟩ := RecAt.of_blk (R := (⟨0, work, prev, 0, 4, 0, [], [], [], [], []⟩ : Rec)) (S := (⟨⟨none, 0, 0⟩, ⟨none, 0, 0⟩, ⟨none, 0, 0⟩, ⟨none, 0, 0⟩, ⟨none, 0, 0⟩⟩ : RecS)) XQ.out
        simp only at x0 x1 x2 x3 x4 x5 x6 x7 x8 x9 x10
        have xf := XQ.out.frozen
        have hno := Lib.hid (show getR zs = none by rw [HG.out, hse]; exact fin_no hrr)
        clear hrr tq hRt
        go_wp2_with fail
        obtain ⟨wz, hwz, XZ, tZ⟩ := fin11 (.int .i64 0) (.int .i64 0) (.int .i64 0) (.int .i64 0) (.int .u8 0) (.int .i64 0) (.slice none 0 0) (.slice none 0 0) (.slice none 0 0) (.slice none 0 0) (.slice none 0 0) RBQ.out
        rw [hwz]
        clear hwz
        have TZ := TQ.out.trans (W := fun _ => False) tZ (fun _ e => e) (fun i e => .inr (by omega))
        obtain ⟨e0, e1, e2, e3, e4, e5, e6, e7, e8, e9, e10⟩ := XZ.cells11
        refine bodyPost_ret (v := .tuple #[.agg #[.int .i64 0, .int .i64 0, .int .i64 0, .int .i64 0, .int .u8 0, .int .i64 0, .slice none 0 0, .slice none 0 0, .slice none 0 0, .slice none 0 0, .slice none 0 0], .int .i64 0, .int .i64 4]) (by simp [results, Tryz.results21, go_sem, e0, e1, e2, e3, e4, e5, e6, e7, e8, e9, e10]) rfl ?_
        exact .inr ⟨hno.out, rfl, TZ⟩
      | true =>
        rw [hrr] at hRt
        refine hRt.mono ?_
        rintro e wq ⟨rfl, tq⟩
        have TQ := Lib.hid (T9.out.and_ tq)
        have RBQ := Lib.hid (RB9.out.turned tq (fun e => e))
        have XQ := Lib.hid (X9.out.turned tq (fun e => e))
        have HOQ := Lib.hid (HO.out.fresh tq)
        clear x0 x1 x2 x3 x4 x5 x6 x7 x8 x9 x10 xf
        obtain ⟨y0, y1, y2, y3, y4, y5, y6, y7, y8, y9, y10⟩ := RecAt.of_blk (R := Rec.zero) (S := RecS.nil) RBQ.out
        simp only [Rec.zero, RecS.nil, Sl.nil] at y0 y1 y2 y3 y4 y5 y6 y7 y8 y9 y10
        have yf := RBQ.out.frozen
        obtain ⟨x0, x1, x2, x3, x4, x5, x6, x7, x8, x9, x10⟩ := RecAt.of_blk (R := (⟨0, work, prev, 0, 4, 0, [], [], [], [], []⟩ : Rec)) (S := (⟨⟨none, 0, 0⟩, ⟨none, 0, 0⟩, ⟨none, 0, 0⟩, ⟨none, 0, 0⟩, ⟨none, 0, 0⟩⟩ : RecS)) XQ.out
        simp only at x0 x1 x2 x3 x4 x5 x6 x7 x8 x9 x10
        have xf := XQ.out.frozen
        have hys := Lib.hid (show getR zs = some ((⟨0, work, prev, 0, 4, 0, [], [], [], [], []⟩ : Rec), 2 + m) by rw [HG.out, hse]; exact fin_yes hrr)
        clear hrr HG tq hRt
        go_wp2_with fail
        obtain ⟨wz, hwz, XZ, tZ⟩ := fin11 (.int .i64 0) (.int .i64 work) (.int .i64 prev) (.int .i64 0) (.int .u8 4) (.int .i64 0) (.slice none 0 0) (.slice none 0 0) (.slice none 0 0) (.slice none 0 0) (.slice none 0 0) RBQ.out
        rw [hwz]
        clear hwz
        have TZ := TQ.out.trans (W := fun _ => False) tZ (fun _ e => e) (fun i e => .inr (by omega))
        obtain ⟨e0, e1, e2, e3, e4, e5, e6, e7, e8, e9, e10⟩ := XZ.cells11
        refine bodyPost_ret (v := .tuple #[.agg #[.int .i64 0, .int .i64 work, .int .i64 prev, .int .i64 0, .int .u8 4, .int .i64 0, .slice none 0 0, .slice none 0 0, .slice none 0 0, .slice none 0 0, .slice none 0 0], .int .i64 (2 + (m : Int)), .int .i64 0]) (by simp [results, Tryz.results21, go_sem, e0, e1, e2, e3, e4, e5, e6, e7, e8, e9, e10]) rfl ?_
        have HZ : RecOwn wz w.heap.size (⟨0, work, prev, 0, 4, 0, [], [], [], [], []⟩ : Rec) (⟨⟨none, 0, 0⟩, ⟨none, 0, 0⟩, ⟨none, 0, 0⟩, ⟨none, 0, 0⟩, ⟨none, 0, 0⟩⟩ : RecS) := HOQ.out.moved tZ (fun i e => by omega) RBQ.out (by decide) (by decide) (by decide)
        exact .inl ⟨_, 2 + m, (⟨⟨none, 0, 0⟩, ⟨none, 0, 0⟩, ⟨none, 0, 0⟩, ⟨none, 0, 0⟩, ⟨none, 0, 0⟩⟩ : RecS), hys.out, by rw [Int.natCast_add]; rfl, HZ, TZ⟩
set_option maxRecDepth 100000 in
set_option maxHeartbeats 2000000 in
theorem fget_1 (A : Option Addr) (n c : Nat) (zs : List Int) (w : World) (h : BytS w A n c zs) (hb : ∀ z ∈ zs, isByte z) (hnc : n ≤ c) (hc : c ≤ maxLen) (hn6 : n ≤ 1000000) (hk : kindOf zs = 1) : Calls Tryz.prog 21 #[.slice A n c] w (RGet zs w) := by
  have hbS : ∀ ys, (some zs : Option (List Int)) = some ys → ∀ y ∈ ys, isByte y := fun ys e y hy => by injection e with e; subst e; exact hb y hy
  obtain ⟨m, hm, hm2⟩ := numS2_nat (some zs) hbS
  have hG : getR zs = finR m (restS (kindOf zs) (numS 1 (inS m (numS 2 (some zs)).2)).2) := by
    unfold getR getS kindOf
    rw [hm, Int.toNat_natCast]
  have hkd : (numS 1 (inS m (numS 2 (some zs)).2)).1 = kindOf zs := by
    unfold kindOf
    rw [hm, Int.toNat_natCast]
  obtain ⟨kk, hkk, hk255⟩ := numS1_nat (inS m (numS 2 (some zs)).2) (inS_bytes (numS_bytes hbS))
  rw [hkd] at hkk
  rw [hk] at hG
  clear hkk hk255
  have hcm := hc
  unfold maxLen at hcm
  have hpl : 0 < n → PlF (w.heap.size + 1) (w.heap.size + 2) A := fun h0 => by
    obtain ⟨b, off, e, hcl⟩ := h.cell h0
    have := World.block_lt_of_cell? w ⟨b, off + 0, none⟩ (hcl 0 h0)
    exact .inr ⟨b, off, e, by simp at this; omega, by simp at this; omega⟩
  have hRB := (Blk.new w 29 #[.int .i64 0, .int .i64 0, .int .i64 0, .int .i64 0, .int .u8 0, .int .i64 0, .slice none 0 0, .slice none 0 0, .slice none 0 0, .slice none 0 0, .slice none 0 0]).alloc (.cells #[.slice A n c, .bool false] 118)
  have hRd : RdF ((w.alloc (.cells #[.int .i64 0, .int .i64 0, .int .i64 0, .int .i64 0, .int .u8 0, .int .i64 0, .slice none 0 0, .slice none 0 0, .slice none 0 0, .slice none 0 0, .slice none 0 0] 29)).alloc (.cells #[.slice A n c, .bool false] 118)) (w.heap.size + 1) A n c false := Blk.new_at _ _ _ (by simp)
  have hT := ((Turned.refl (fun _ => False) w).alloc (.cells #[.int .i64 0, .int .i64 0, .int .i64 0, .int .i64 0, .int .u8 0, .int .i64 0, .slice none 0 0, .slice none 0 0, .slice none 0 0, .slice none 0 0, .slice none 0 0] 29)).alloc (.cells #[.slice A n c, .bool false] 118)
  have hs0 : ((w.alloc (.cells #[.int .i64 0, .int .i64 0, .int .i64 0, .int .i64 0, .int .u8 0, .int .i64 0, .slice none 0 0, .slice none 0 0, .slice none 0 0, .slice none 0 0, .slice none 0 0] 29)).alloc (.cells #[.slice A n c, .bool false] 118)).heap.size = w.heap.size + 2 := by simp
  have hN1 : Calls Tryz.prog 61 #[.pointer (some ⟨w.heap.size + 1, 0, none⟩), .int .i64 (2 : Nat)] ((w.alloc (.cells #[.int .i64 0, .int .i64 0, .int .i64 0, .int .i64 0, .int .u8 0, .int .i64 0, .slice none 0 0, .slice none 0 0, .slice none 0 0, .slice none 0 0, .slice none 0 0] 29)).alloc (.cells #[.slice A n c, .bool false] 118)) (NmPost (w.heap.size + 1) (w.heap.size + 2) 2 (some zs) ((w.alloc (.cells #[.int .i64 0, .int .i64 0, .int .i64 0, .int .i64 0, .int .u8 0, .int .i64 0, .slice none 0 0, .slice none 0 0, .slice none 0 0, .slice none 0 0, .slice none 0 0] 29)).alloc (.cells #[.slice A n c, .bool false] 118))) := by
    rcases Nat.lt_or_ge n 2 with hlt | hge
    · exact fnum_by _ _ 2 (some zs) _ (ftake_short _ _ A n c 2 false _ hRd (by omega) (by omega) (by omega) (.inr hlt) (some zs) (takeS_short (by rw [h.len]; exact hlt))) (by omega) hbS
    · exact fnum_any _ _ 2 (some zs) _ ⟨by omega, A, n, c, hRd, h.turned hT (fun _ _ _ e => e), hnc, hc, hpl (by omega), hn6⟩ (by omega) (by omega) hbS
  unfold NmPost at hN1
  rw [hm] at hN1
  have hb1 := Lib.hid (numS_bytes (k := 2) hbS)
  have hN1' := Lib.hid hN1
  have RB0 := Lib.hid hRB
  have T0 := Lib.hid hT
  have HG := Lib.hid hG
  have HKD := Lib.hid hkd
  clear hN1 hRB hRd hT hG hkd hm hpl h hb hbS
  generalize (numS 2 (some zs)).2 = s1 at *
  go_enter Tryz.func21, Tryz.ntmps21
  go_wp2_with fail
  generalize ((w.alloc (.cells #[.int .i64 0, .int .i64 0, .int .i64 0, .int .i64 0, .int .u8 0, .int .i64 0, .slice none 0 0, .slice none 0 0, .slice none 0 0, .slice none 0 0, .slice none 0 0] 29)).alloc (.cells #[.slice A n c, .bool false] 118)) = w0 at *
  refine hN1'.out.mono ?_
  rintro e w1 ⟨rfl, hR1, t1⟩
  have R1 := Lib.hid hR1
  have hsz1 : w.heap.size + 2 ≤ w1.heap.size := by have := t1.size; omega
  have T1 := Lib.hid (T0.out.trans (W := fun _ => False) t1 (fun _ e => e) (fun i e => .inr (by omega)))
  have RB1 := Lib.hid (RB0.out.turned t1 (fun e => by omega))
  clear hR1 t1 T0 RB0 hN1'
  go_wp2_with fail
  refine (ftake_any (w.heap.size + 1) _ m s1 w1 R1.out (by omega)).mono ?_
  rintro e w2 ⟨A2, c2, rfl, hy2, hg2, hR2, t2⟩
  obtain ⟨B, hBB⟩ : ∃ B, B = w2.heap.size := ⟨_, rfl⟩
  have R3 := Lib.hid (isF_in hy2 (fun g e => by have := hg2 g e; omega) hR2 (Nat.le_of_eq hBB.symm) (by omega))
  obtain ⟨A3, n3, c3, sh3, hq3⟩ := rdF_blk hR2
  have q0 : w2.cell? ⟨w.heap.size + 1, 0, none⟩ = some (.slice A3 n3 c3) := hq3.cell 0
  have f0 := hq3.frozen 0
  have t3 := t2.setCell (p := ⟨w.heap.size + 1, 0, none⟩) (.inl rfl) (.slice A2 (takeS m s1).1.length c2)
  have hsz2 : w.heap.size + 2 ≤ w2.heap.size := by have := t2.size; omega
  have hsB : (w2.setCell ⟨w.heap.size + 1, 0, none⟩ (.slice A2 (takeS m s1).1.length c2)).heap.size = B := by rw [hBB]; simp [World.setCell]
  have T3 := Lib.hid (T1.out.trans (W := fun _ => False) t3 (fun _ e => e) (fun i e => .inr (by omega)))
  have RB3 := Lib.hid (RB1.out.turned t3 (fun e => by omega))
  have hB2 : w.heap.size + 2 ≤ B := by omega
  have hBB := Lib.hid hBB
  clear hy2 hg2 hR2 t2 t3 hq3 R1 T1 RB1 hBB
  go_wp2_with fail
  generalize w2.setCell ⟨w.heap.size + 1, 0, none⟩ (.slice A2 (takeS m s1).1.length c2) = w3 at *
  have hN3 := fnum_any (w.heap.size + 1) B 1 (inS m s1) w3 R3.out (by omega) (by omega) (inS_bytes hb1.out)
  unfold NmPost at hN3
  rw [HKD.out, hk] at hN3
  refine hN3.mono ?_
  rintro e w4 ⟨rfl, hR4, t4⟩
  have R4 := Lib.hid hR4
  have hB4 : B ≤ w4.heap.size := by have := t4.size; omega
  have T4 := Lib.hid (T3.out.trans (W := fun _ => False) t4 (fun _ e => e) (fun i e => .inr (by omega)))
  have RB4 := Lib.hid (RB3.out.turned t4 (fun e => by omega))
  have hb4 := Lib.hid (numS_bytes (k := 1) (inS_bytes hb1.out (k := m)))
  clear hR4 t4 T3 RB3 R3 q0 f0 hN3 hb1 hsB
  generalize (numS 1 (inS m s1)).2 = s4 at *
  clear HKD
  have hwr : w.heap.size < w.heap.size + 1 := by omega
  have HG := Lib.hid (show getR zs = finR m ((⟨0, (numS 8 s4).1, (numS 8 (numS 8 s4).2).1, 0, 1, (numS 2 (numS 8 (numS 8 s4).2).2).1, (rowS (numS 2 (numS 8 (numS 8 s4).2).2).2).1, (rowS (rowS (numS 2 (numS 8 (numS 8 s4).2).2).2).2).1, (rowS (rowS (rowS (numS 2 (numS 8 (numS 8 s4).2).2).2).2).2).1, [], []⟩ : Rec), (rowS (rowS (rowS (numS 2 (numS 8 (numS 8 s4).2).2).2).2).2).2) from HG.out)
  generalize w.heap.size + 1 = r at *
  have H1 := Lib.hid (fun (w' : World) (h : IsF w' r B s4) (hB : B ≤ w'.heap.size) => fnum_any r B 8 s4 w' h hB (by omega) hb4.out)
  have hb5 := Lib.hid (numS_bytes (k := 8) hb4.out)
  unfold NmPost at H1
  generalize (numS 8 s4).1 = work at *
  generalize (numS 8 s4).2 = s5 at *
  clear hb4
  have H2 := Lib.hid (fun (w' : World) (h : IsF w' r B s5) (hB : B ≤ w'.heap.size) => fnum_any r B 8 s5 w' h hB (by omega) hb5.out)
  have hb6 := Lib.hid (numS_bytes (k := 8) hb5.out)
  unfold NmPost at H2
  generalize (numS 8 s5).1 = prev at *
  generalize (numS 8 s5).2 = s6 at *
  clear hb5
  have H3 := Lib.hid (fun (w' : World) (h : IsF w' r B s6) (hB : B ≤ w'.heap.size) => fnum_any r B 2 s6 w' h hB (by omega) hb6.out)
  have hb7 := Lib.hid (numS_bytes (k := 2) hb6.out)
  unfold NmPost at H3
  generalize (numS 2 s6).1 = page at *
  generalize (numS 2 s6).2 = s7 at *
  clear hb6
  have H4 := Lib.hid (fun (w' : World) (h : IsF w' r B s7) (hB : B ≤ w'.heap.size) => frrow_any r B s7 w' h hB hb7.out)
  have hb8 := Lib.hid (rowS_bytes hb7.out)
  have hlkey := rowS_len s7 hb7.out
  unfold FRowPost at H4
  generalize (rowS s7).1 = key at *
  generalize (rowS s7).2 = s8 at *
  clear hb7
  have H5 := Lib.hid (fun (w' : World) (h : IsF w' r B s8) (hB : B ≤ w'.heap.size) => frrow_any r B s8 w' h hB hb8.out)
  have hb9 := Lib.hid (rowS_bytes hb8.out)
  have hlold := rowS_len s8 hb8.out
  unfold FRowPost at H5
  generalize (rowS s8).1 = old at *
  generalize (rowS s8).2 = s9 at *
  clear hb8
  have H6 := Lib.hid (fun (w' : World) (h : IsF w' r B s9) (hB : B ≤ w'.heap.size) => frrow_any r B s9 w' h hB hb9.out)
  have hb10 := Lib.hid (rowS_bytes hb9.out)
  have hlnew := rowS_len s9 hb9.out
  unfold FRowPost at H6
  generalize (rowS s9).1 = new at *
  generalize (rowS s9).2 = s10 at *
  clear hb9
  have X5 := Lib.hid (Blk.new w4 29 (recC (⟨0, 0, 0, 0, 1, 0, [], [], [], [], []⟩ : Rec) (⟨⟨none, 0, 0⟩, ⟨none, 0, 0⟩, ⟨none, 0, 0⟩, ⟨none, 0, 0⟩, ⟨none, 0, 0⟩⟩ : RecS)))
  have t5 := (Turned.refl (fun _ => False) w4).alloc (.cells (recC (⟨0, 0, 0, 0, 1, 0, [], [], [], [], []⟩ : Rec) (⟨⟨none, 0, 0⟩, ⟨none, 0, 0⟩, ⟨none, 0, 0⟩, ⟨none, 0, 0⟩, ⟨none, 0, 0⟩⟩ : RecS)) 29)
  have hsz5 : w4.heap.size + 1 ≤ (w4.alloc (.cells (recC (⟨0, 0, 0, 0, 1, 0, [], [], [], [], []⟩ : Rec) (⟨⟨none, 0, 0⟩, ⟨none, 0, 0⟩, ⟨none, 0, 0⟩, ⟨none, 0, 0⟩, ⟨none, 0, 0⟩⟩ : RecS)) 29)).heap.size := by simp
  have R5 := Lib.hid (R4.out.fresh t5 (Nat.le_refl _))
  have hrB := R4.out.lt.2
  have T5 := Lib.hid (T4.out.and_ t5)
  have RB5 := Lib.hid (RB4.out.turned t5 (fun e => e))
  clear t5 R4 T4 RB4
  unfold recC at X5 hsz5 R5 T5 RB5
  simp only at X5 hsz5 R5 T5 RB5
  go_wp2_with fail
  generalize w4.alloc (.cells #[.int .i64 0, .int .i64 0, .int .i64 0, .int .i64 0, .int .u8 1, .int .i64 0, .slice none 0 0, .slice none 0 0, .slice none 0 0, .slice none 0 0, .slice none 0 0] 29) = w5 at *
  generalize w4.heap.size = xb at *
  have hne1 : ¬ (r = xb) := by omega
  have hne2 : ¬ (xb = r) := by omega
  have hne3 : ¬ (w.heap.size = xb) := by omega
  have hne4 : ¬ (xb = w.heap.size) := by omega
  have hne5 : ¬ (w.heap.size = r) := by omega
  have hne6 : ¬ (r = w.heap.size) := by omega
  have RB5 : Hid (Blk w5 w.heap.size 29 (recC Rec.zero RecS.nil)) := RB5
  obtain ⟨x0, x1, x2, x3, x4, x5, x6, x7, x8, x9, x10⟩ := RecAt.of_blk (R := (⟨0, 0, 0, 0, 1, 0, [], [], [], [], []⟩ : Rec)) (S := (⟨⟨none, 0, 0⟩, ⟨none, 0, 0⟩, ⟨none, 0, 0⟩, ⟨none, 0, 0⟩, ⟨none, 0, 0⟩⟩ : RecS)) X5.out
  simp only at x0 x1 x2 x3 x4 x5 x6 x7 x8 x9 x10
  have xf := X5.out.frozen
  refine (H1.out _ R5.out (by omega)).mono ?_
  rintro e w6 ⟨rfl, hR, t⟩
  have R6 := Lib.hid hR
  have T6 := Lib.hid (T5.out.trans (W := fun _ => False) t (fun _ e => e) (fun i e => .inr (by omega)))
  have RB6 := Lib.hid (RB5.out.turned t (fun e => by omega))
  have X6 := Lib.hid (X5.out.turned t (fun e => by omega))
  have hsz6 := Nat.le_trans hsz5 t.size
  have hmo6 := t.size
  clear hR t R5 T5 RB5 X5
  clear x0 x1 x2 x3 x4 x5 x6 x7 x8 x9 x10 xf
  obtain ⟨x0, x1, x2, x3, x4, x5, x6, x7, x8, x9, x10⟩ := RecAt.of_blk (R := (⟨0, 0, 0, 0, 1, 0, [], [], [], [], []⟩ : Rec)) (S := (⟨⟨none, 0, 0⟩, ⟨none, 0, 0⟩, ⟨none, 0, 0⟩, ⟨none, 0, 0⟩, ⟨none, 0, 0⟩⟩ : RecS)) X6.out
  simp only at x0 x1 x2 x3 x4 x5 x6 x7 x8 x9 x10
  have xf := X6.out.frozen
  go_wp2_with fail
  have tS := (Turned.refl (fun i => i = xb) w6).setCell (p := ⟨xb, 1, none⟩) (.inl rfl) (.int .i64 work)
  have X7 : Hid (Blk (w6.setCell ⟨xb, 1, none⟩ (.int .i64 work)) xb 29 (recC (⟨0, work, 0, 0, 1, 0, [], [], [], [], []⟩ : Rec) (⟨⟨none, 0, 0⟩, ⟨none, 0, 0⟩, ⟨none, 0, 0⟩, ⟨none, 0, 0⟩, ⟨none, 0, 0⟩⟩ : RecS))) := Lib.hid (X6.out.set_ 1 (.int .i64 work))
  have R7 := Lib.hid (R6.out.keep tS (fun i e => by omega) (Nat.le_refl _))
  have T7 := Lib.hid (T6.out.trans (W := fun _ => False) tS (fun _ e => e) (fun i e => .inr (by omega)))
  have RB7 := Lib.hid (RB6.out.turned tS (fun e => by omega))
  have hsz7 := Nat.le_trans hsz6 tS.size
  have hmo7 := tS.size
  clear tS X6 R6 T6 RB6
  generalize (w6.setCell ⟨xb, 1, none⟩ (.int .i64 work)) = w7 at *
  refine (H2.out _ R7.out (by omega)).mono ?_
  rintro e w8 ⟨rfl, hR, t⟩
  have R8 := Lib.hid hR
  have T8 := Lib.hid (T7.out.trans (W := fun _ => False) t (fun _ e => e) (fun i e => .inr (by omega)))
  have RB8 := Lib.hid (RB7.out.turned t (fun e => by omega))
  have X8 := Lib.hid (X7.out.turned t (fun e => by omega))
  have hsz8 := Nat.le_trans hsz7 t.size
  have hmo8 := t.size
  clear hR t R7 T7 RB7 X7
  clear x0 x1 x2 x3 x4 x5 x6 x7 x8 x9 x10 xf
  obtain ⟨x0, x1, x2, x3, x4, x5, x6, x7, x8, x9, x10⟩ := RecAt.of_blk (R := (⟨0, work, 0, 0, 1, 0, [], [], [], [], []⟩ : Rec)) (S := (⟨⟨none, 0, 0⟩, ⟨none, 0, 0⟩, ⟨none, 0, 0⟩, ⟨none, 0, 0⟩, ⟨none, 0, 0⟩⟩ : RecS)) X8.out
  simp only at x0 x1 x2 x3 x4 x5 x6 x7 x8 x9 x10
  have xf := X8.out.frozen
  go_wp2_with fail
  have tS := (Turned.refl (fun i => i = xb) w8).setCell (p := ⟨xb, 2, none⟩) (.inl rfl) (.int .i64 prev)
  have X9 : Hid (Blk (w8.setCell ⟨xb, 2, none⟩ (.int .i64 prev)) xb 29 (recC (⟨0, work, prev, 0, 1, 0, [], [], [], [], []⟩ : Rec) (⟨⟨none, 0, 0⟩, ⟨none, 0, 0⟩, ⟨none, 0, 0⟩, ⟨none, 0, 0⟩, ⟨none, 0, 0⟩⟩ : RecS))) := Lib.hid (X8.out.set_ 2 (.int .i64 prev))
  have R9 := Lib.hid (R8.out.keep tS (fun i e => by omega) (Nat.le_refl _))
  have T9 := Lib.hid (T8.out.trans (W := fun _ => False) tS (fun _ e => e) (fun i e => .inr (by omega)))
  have RB9 := Lib.hid (RB8.out.turned tS (fun e => by omega))
  have hsz9 := Nat.le_trans hsz8 tS.size
  have hmo9 := tS.size
  clear tS X8 R8 T8 RB8
  generalize (w8.setCell ⟨xb, 2, none⟩ (.int .i64 prev)) = w9 at *
  refine (H3.out _ R9.out (by omega)).mono ?_
  rintro e w10 ⟨rfl, hR, t⟩
  have R10 := Lib.hid hR
  have T10 := Lib.hid (T9.out.trans (W := fun _ => False) t (fun _ e => e) (fun i e => .inr (by omega)))
  have RB10 := Lib.hid (RB9.out.turned t (fun e => by omega))
  have X10 := Lib.hid (X9.out.turned t (fun e => by omega))
  have hsz10 := Nat.le_trans hsz9 t.size
  have hmo10 := t.size
  clear hR t R9 T9 RB9 X9
  clear x0 x1 x2 x3 x4 x5 x6 x7 x8 x9 x10 xf
  obtain ⟨x0, x1, x2, x3, x4, x5, x6, x7, x8, x9, x10⟩ := RecAt.of_blk (R := (⟨0, work, prev, 0, 1, 0, [], [], [], [], []⟩ : Rec)) (S := (⟨⟨none, 0, 0⟩, ⟨none, 0, 0⟩, ⟨none, 0, 0⟩, ⟨none, 0, 0⟩, ⟨none, 0, 0⟩⟩ : RecS)) X10.out
  simp only at x0 x1 x2 x3 x4 x5 x6 x7 x8 x9 x10
  have xf := X10.out.frozen
  go_wp2_with fail
  have tS := (Turned.refl (fun i => i = xb) w10).setCell (p := ⟨xb, 5, none⟩) (.inl rfl) (.int .i64 page)
  have X11 : Hid (Blk (w10.setCell ⟨xb, 5, none⟩ (.int .i64 page)) xb 29 (recC (⟨0, work, prev, 0, 1, page, [], [], [], [], []⟩ : Rec) (⟨⟨none, 0, 0⟩, ⟨none, 0, 0⟩, ⟨none, 0, 0⟩, ⟨none, 0, 0⟩, ⟨none, 0, 0⟩⟩ : RecS))) := Lib.hid (X10.out.set_ 5 (.int .i64 page))
  have R11 := Lib.hid (R10.out.keep tS (fun i e => by omega) (Nat.le_refl _))
  have T11 := Lib.hid (T10.out.trans (W := fun _ => False) tS (fun _ e => e) (fun i e => .inr (by omega)))
  have RB11 := Lib.hid (RB10.out.turned tS (fun e => by omega))
  have hsz11 := Nat.le_trans hsz10 tS.size
  have hmo11 := tS.size
  clear tS X10 R10 T10 RB10
  generalize (w10.setCell ⟨xb, 5, none⟩ (.int .i64 page)) = w11 at *
  refine (H4.out _ R11.out (by omega)).mono ?_
  rintro e w12 ⟨Ak, ck, rfl, ow, ob, hR, t⟩
  have owk := Lib.hid ow
  have owkB := Lib.hid (fun g (e : Ak = some ⟨g, 0, none⟩) => (show xb < g by have := ob g e; omega))
  have owkS := Lib.hid (fun g (e : Ak = some ⟨g, 0, none⟩) => (show w11.heap.size ≤ g ∧ g < w12.heap.size from ⟨ob g e, ow.lt e⟩))
  clear ow ob
  have R12 := Lib.hid hR
  have T12 := Lib.hid (T11.out.trans (W := fun _ => False) t (fun _ e => e) (fun i e => .inr (by omega)))
  have RB12 := Lib.hid (RB11.out.turned t (fun e => by omega))
  have X12 := Lib.hid (X11.out.turned t (fun e => by omega))
  have hsz12 := Nat.le_trans hsz11 t.size
  have hmo12 := t.size
  clear hR t R11 T11 RB11 X11
  clear x0 x1 x2 x3 x4 x5 x6 x7 x8 x9 x10 xf
  obtain ⟨x0, x1, x2, x3, x4, x5, x6, x7, x8, x9, x10⟩ := RecAt.of_blk (R := (⟨0, work, prev, 0, 1, page, [], [], [], [], []⟩ : Rec)) (S := (⟨⟨none, 0, 0⟩, ⟨none, 0, 0⟩, ⟨none, 0, 0⟩, ⟨none, 0, 0⟩, ⟨none, 0, 0⟩⟩ : RecS)) X12.out
  simp only at x0 x1 x2 x3 x4 x5 x6 x7 x8 x9 x10
  have xf := X12.out.frozen
  go_wp2_with fail
  have tS := (Turned.refl (fun i => i = xb) w12).setCell (p := ⟨xb, 6, none⟩) (.inl rfl) (.slice Ak key.length ck)
  have X13 : Hid (Blk (w12.setCell ⟨xb, 6, none⟩ (.slice Ak key.length ck)) xb 29 (recC (⟨0, work, prev, 0, 1, page, key, [], [], [], []⟩ : Rec) (⟨⟨Ak, key.length, ck⟩, ⟨none, 0, 0⟩, ⟨none, 0, 0⟩, ⟨none, 0, 0⟩, ⟨none, 0, 0⟩⟩ : RecS))) := Lib.hid (X12.out.set_ 6 (.slice Ak key.length ck))
  have R13 := Lib.hid (R12.out.keep tS (fun i e => by omega) (Nat.le_refl _))
  have T13 := Lib.hid (T12.out.trans (W := fun _ => False) tS (fun _ e => e) (fun i e => .inr (by omega)))
  have RB13 := Lib.hid (RB12.out.turned tS (fun e => by omega))
  have hsz13 := Nat.le_trans hsz12 tS.size
  have hmo13 := tS.size
  have owk := Lib.hid (owk.out.turned tS (fun g e e2 => owk.out.blk X12.out (by decide) e e2))
  clear tS X12 R12 T12 RB12
  generalize (w12.setCell ⟨xb, 6, none⟩ (.slice Ak key.length ck)) = w13 at *
  refine (H5.out _ R13.out (by omega)).mono ?_
  rintro e w14 ⟨Ao, co, rfl, ow, ob, hR, t⟩
  have owo := Lib.hid ow
  have owoB := Lib.hid (fun g (e : Ao = some ⟨g, 0, none⟩) => (show xb < g by have := ob g e; omega))
  have owoS := Lib.hid (fun g (e : Ao = some ⟨g, 0, none⟩) => (show w13.heap.size ≤ g ∧ g < w14.heap.size from ⟨ob g e, ow.lt e⟩))
  clear ow ob
  have R14 := Lib.hid hR
  have T14 := Lib.hid (T13.out.trans (W := fun _ => False) t (fun _ e => e) (fun i e => .inr (by omega)))
  have RB14 := Lib.hid (RB13.out.turned t (fun e => by omega))
  have X14 := Lib.hid (X13.out.turned t (fun e => by omega))
  have hsz14 := Nat.le_trans hsz13 t.size
  have hmo14 := t.size
  have owk := Lib.hid (owk.out.turned t (fun g e e2 => by have := owkB.out g e; omega))
  clear hR t R13 T13 RB13 X13
  clear x0 x1 x2 x3 x4 x5 x6 x7 x8 x9 x10 xf
  obtain ⟨x0, x1, x2, x3, x4, x5, x6, x7, x8, x9, x10⟩ := RecAt.of_blk (R := (⟨0, work, prev, 0, 1, page, key, [], [], [], []⟩ : Rec)) (S := (⟨⟨Ak, key.length, ck⟩, ⟨none, 0, 0⟩, ⟨none, 0, 0⟩, ⟨none, 0, 0⟩, ⟨none, 0, 0⟩⟩ : RecS)) X14.out
  simp only at x0 x1 x2 x3 x4 x5 x6 x7 x8 x9 x10
  have xf := X14.out.frozen
  go_wp2_with fail
  have tS := (Turned.refl (fun i => i = xb) w14).setCell (p := ⟨xb, 7, none⟩) (.inl rfl) (.slice Ao old.length co)
  have X15 : Hid (Blk (w14.setCell ⟨xb, 7, none⟩ (.slice Ao old.length co)) xb 29 (recC (⟨0, work, prev, 0, 1, page, key, old, [], [], []⟩ : Rec) (⟨⟨Ak, key.length, ck⟩, ⟨Ao, old.length, co⟩, ⟨none, 0, 0⟩, ⟨none, 0, 0⟩, ⟨none, 0, 0⟩⟩ : RecS))) := Lib.hid (X14.out.set_ 7 (.slice Ao old.length co))
  have R15 := Lib.hid (R14.out.keep tS (fun i e => by omega) (Nat.le_refl _))
  have T15 := Lib.hid (T14.out.trans (W := fun _ => False) tS (fun _ e => e) (fun i e => .inr (by omega)))
  have RB15 := Lib.hid (RB14.out.turned tS (fun e => by omega))
  have hsz15 := Nat.le_trans hsz14 tS.size
  have hmo15 := tS.size
  have owk := Lib.hid (owk.out.turned tS (fun g e e2 => owk.out.blk X14.out (by decide) e e2))
  have owo := Lib.hid (owo.out.turned tS (fun g e e2 => owo.out.blk X14.out (by decide) e e2))
  clear tS X14 R14 T14 RB14
  generalize (w14.setCell ⟨xb, 7, none⟩ (.slice Ao old.length co)) = w15 at *
  refine (H6.out _ R15.out (by omega)).mono ?_
  rintro e w16 ⟨An, cn, rfl, ow, ob, hR, t⟩
  have own := Lib.hid ow
  have ownB := Lib.hid (fun g (e : An = some ⟨g, 0, none⟩) => (show xb < g by have := ob g e; omega))
  have ownS := Lib.hid (fun g (e : An = some ⟨g, 0, none⟩) => (show w15.heap.size ≤ g ∧ g < w16.heap.size from ⟨ob g e, ow.lt e⟩))
  clear ow ob
  have R16 := Lib.hid hR
  have T16 := Lib.hid (T15.out.trans (W := fun _ => False) t (fun _ e => e) (fun i e => .inr (by omega)))
  have RB16 := Lib.hid (RB15.out.turned t (fun e => by omega))
  have X16 := Lib.hid (X15.out.turned t (fun e => by omega))
  have hsz16 := Nat.le_trans hsz15 t.size
  have hmo16 := t.size
  have owk := Lib.hid (owk.out.turned t (fun g e e2 => by have := owkB.out g e; omega))
  have owo := Lib.hid (owo.out.turned t (fun g e e2 => by have := owoB.out g e; omega))
  clear hR t R15 T15 RB15 X15
  clear x0 x1 x2 x3 x4 x5 x6 x7 x8 x9 x10 xf
  obtain ⟨x0, x1, x2, x3, x4, x5, x6, x7, x8, x9, x10⟩ := RecAt.of_blk (R := (⟨0, work, prev, 0, 1, page, key, old, [], [], []⟩ : Rec)) (S := (⟨⟨Ak, key.length, ck⟩, ⟨Ao, old.length, co⟩, ⟨none, 0, 0⟩, ⟨none, 0, 0⟩, ⟨none, 0, 0⟩⟩ : RecS)) X16.out
  simp only at x0 x1 x2 x3 x4 x5 x6 x7 x8 x9 x10
  have xf := X16.out.frozen
  cases hse : s10 with
  | none =>
    rw [hse] at R16
    obtain ⟨Ar, nr, cr, r0, r1⟩ := rdF_end R16.out
    obtain ⟨y0, y1, y2, y3, y4, y5, y6, y7, y8, y9, y10⟩ := RecAt.of_blk (R := Rec.zero) (S := RecS.nil) RB16.out
    simp only [Rec.zero, RecS.nil, Sl.nil] at y0 y1 y2 y3 y4 y5 y6 y7 y8 y9 y10
    have yf := RB16.out.frozen
    have hno := Lib.hid (show getR zs = none by rw [HG.out, hse]; exact fin_none _ _)
    go_wp2_with fail
    have tS := (Turned.refl (fun i => i = xb) w16).setCell (p := ⟨xb, 8, none⟩) (.inl rfl) (.slice An new.length cn)
    have TS := Lib.hid (T16.out.trans (W := fun _ => False) tS (fun _ e => e) (fun i e => .inr (by omega)))
    have RBS := Lib.hid (RB16.out.turned tS (fun e => by omega))
    generalize (w16.setCell ⟨xb, 8, none⟩ (.slice An new.length cn)) = ws at *
    obtain ⟨wz, hwz, XZ, tZ⟩ := fin11 (.int .i64 0) (.int .i64 0) (.int .i64 0) (.int .i64 0) (.int .u8 0) (.int .i64 0) (.slice none 0 0) (.slice none 0 0) (.slice none 0 0) (.slice none 0 0) (.slice none 0 0) RBS.out
    rw [hwz]
    clear hwz
    have TZ := TS.out.trans (W := fun _ => False) tZ (fun _ e => e) (fun i e => .inr (by omega))
    obtain ⟨e0, e1, e2, e3, e4, e5, e6, e7, e8, e9, e10⟩ := XZ.cells11
    refine bodyPost_ret (v := .tuple #[.agg #[.int .i64 0, .int .i64 0, .int .i64 0, .int .i64 0, .int .u8 0, .int .i64 0, .slice none 0 0, .slice none 0 0, .slice none 0 0, .slice none 0 0, .slice none 0 0], .int .i64 0, .int .i64 4]) (by simp [results, Tryz.results21, go_sem, e0, e1, e2, e3, e4, e5, e6, e7, e8, e9, e10]) rfl ?_
    exact .inr ⟨hno.out, rfl, TZ⟩
  | some ys =>
    cases ys with
    | cons y ys =>
      rw [hse] at R16
      obtain ⟨Ar, nr, cr, r0, r1, hn1, hn2⟩ := rdF_some R16.out
      have hn3 : (0 : Int) < (nr : Int) := by rw [hn1, List.length_cons]; omega
      have hn4 : 0 < nr := by omega
      clear hn1
      obtain ⟨y0, y1, y2, y3, y4, y5, y6, y7, y8, y9, y10⟩ := RecAt.of_blk (R := Rec.zero) (S := RecS.nil) RB16.out
      simp only [Rec.zero, RecS.nil, Sl.nil] at y0 y1 y2 y3 y4 y5 y6 y7 y8 y9 y10
      have yf := RB16.out.frozen
      have hno := Lib.hid (show getR zs = none by rw [HG.out, hse]; exact fin_more _ _ _ _)
      go_wp2_with fail
      have tS := (Turned.refl (fun i => i = xb) w16).setCell (p := ⟨xb, 8, none⟩) (.inl rfl) (.slice An new.length cn)
      have TS := Lib.hid (T16.out.trans (W := fun _ => False) tS (fun _ e => e) (fun i e => .inr (by omega)))
      have RBS := Lib.hid (RB16.out.turned tS (fun e => by omega))
      generalize (w16.setCell ⟨xb, 8, none⟩ (.slice An new.length cn)) = ws at *
      obtain ⟨wz, hwz, XZ, tZ⟩ := fin11 (.int .i64 0) (.int .i64 0) (.int .i64 0) (.int .i64 0) (.int .u8 0) (.int .i64 0) (.slice none 0 0) (.slice none 0 0) (.slice none 0 0) (.slice none 0 0) (.slice none 0 0) RBS.out
      rw [hwz]
      clear hwz
      have TZ := TS.out.trans (W := fun _ => False) tZ (fun _ e => e) (fun i e => .inr (by omega))
      obtain ⟨e0, e1, e2, e3, e4, e5, e6, e7, e8, e9, e10⟩ := XZ.cells11
      refine bodyPost_ret (v := .tuple #[.agg #[.int .i64 0, .int .i64 0, .int .i64 0, .int .i64 0, .int .u8 0, .int .i64 0, .slice none 0 0, .slice none 0 0, .slice none 0 0, .slice none 0 0, .slice none 0 0], .int .i64 0, .int .i64 4]) (by simp [results, Tryz.results21, go_sem, e0, e1, e2, e3, e4, e5, e6, e7, e8, e9, e10]) rfl ?_
      exact .inr ⟨hno.out, rfl, TZ⟩
    | nil =>
      rw [hse] at R16
      obtain ⟨Ar, nr, cr, r0, r1, hn1, hn2⟩ := rdF_some R16.out
      obtain rfl : nr = 0 := hn1
      obtain ⟨y0, y1, y2, y3, y4, y5, y6, y7, y8, y9, y10⟩ := RecAt.of_blk (R := Rec.zero) (S := RecS.nil) RB16.out
      simp only [Rec.zero, RecS.nil, Sl.nil] at y0 y1 y2 y3 y4 y5 y6 y7 y8 y9 y10
      have yf := RB16.out.frozen
      go_wp2_with fail
      have tS := (Turned.refl (fun i => i = xb) w16).setCell (p := ⟨xb, 8, none⟩) (.inl rfl) (.slice An new.length cn)
      have T17 := Lib.hid (T16.out.trans (W := fun _ => False) tS (fun _ e => e) (fun i e => .inr (by omega)))
      have RB17 := Lib.hid (RB16.out.turned tS (fun e => by omega))
      have X17 : Hid (Blk (w16.setCell ⟨xb, 8, none⟩ (.slice An new.length cn)) xb 29 (recC (⟨0, work, prev, 0, 1, page, key, old, new, [], []⟩ : Rec) (⟨⟨Ak, key.length, ck⟩, ⟨Ao, old.length, co⟩, ⟨An, new.length, cn⟩, ⟨none, 0, 0⟩, ⟨none, 0, 0⟩⟩ : RecS))) := Lib.hid (X16.out.set_ 8 (.slice An new.length cn))
      have owk := Lib.hid (owk.out.turned tS (fun g e e2 => owk.out.blk X16.out (by decide) e e2))
      have owo := Lib.hid (owo.out.turned tS (fun g e e2 => owo.out.blk X16.out (by decide) e e2))
      have own := Lib.hid (own.out.turned tS (fun g e e2 => own.out.blk X16.out (by decide) e e2))
      generalize (w16.setCell ⟨xb, 8, none⟩ (.slice An new.length cn)) = w17 at *
      clear tS X16 T16 RB16
      have hOwn : RecOwn w17 w.heap.size (⟨0, work, prev, 0, 1, page, key, old, new, [], []⟩ : Rec) (⟨⟨Ak, key.length, ck⟩, ⟨Ao, old.length, co⟩, ⟨An, new.length, cn⟩, ⟨none, 0, 0⟩, ⟨none, 0, 0⟩⟩ : RecS) := ⟨owk.out, owo.out, own.out, OwnE.nil _ _ _, OwnE.nil _ _ _, (fun g e => by have := owkB.out g e; omega), (fun g e => by have := owoB.out g e; omega), (fun g e => by have := ownB.out g e; omega), (fun g e => by cases e), (fun g e => by cases e), (fun g e e2 => by have h1 := owkS.out g e; have h2 := owoS.out g e2; omega), (fun g e e2 => by have h1 := owkS.out g e; have h2 := ownS.out g e2; omega), (fun g e e2 => by have h1 := owoS.out g e; have h2 := ownS.out g e2; omega), ⟨by show key.length ≤ 1000000; omega, by show old.length ≤ 1000000; omega, by show new.length ≤ 1000000; omega, Nat.zero_le _, Nat.zero_le _⟩⟩
      have hRt := fright_any (⟨0, work, prev, 0, 1, page, key, old, new, [], []⟩ : Rec) (⟨⟨Ak, key.length, ck⟩, ⟨Ao, old.length, co⟩, ⟨An, new.length, cn⟩, ⟨none, 0, 0⟩, ⟨none, 0, 0⟩⟩ : RecS) w17 hOwn.is
      have HO := Lib.hid hOwn
      unfold recC at hRt
      simp only at hRt
      clear hOwn y0 y1 y2 y3 y4 y5 y6 y7 y8 y9 y10 yf r0 r1 hn2
      cases hrr : rightR (⟨0, work, prev, 0, 1, page, key, old, new, [], []⟩ : Rec) with
      | false =>
        rw [hrr] at hRt
        refine hRt.mono ?_
        rintro e wq ⟨rfl, tq⟩
        have TQ := Lib.hid (T17.out.and_ tq)
        have RBQ := Lib.hid (RB17.out.turned tq (fun e => e))
        have XQ := Lib.hid (X17.out.turned tq (fun e => e))
        have HOQ := Lib.hid (HO.out.fresh tq)
        clear x0 x1 x2 x3 x4 x5 x6 x7 x8 x9 x10 xf
        obtain ⟨y0, y1, y2, y3, y4, y5, y6, y7, y8, y9, y10⟩ := RecAt.of_blk (R := Rec.zero) (S := RecS.nil) RBQ.out
        simp only [Rec.zero, RecS.nil, Sl.nil] at y0 y1 y2 y3 y4 y5 y6 y7 y8 y9 y10
        have yf := RBQ.out.frozen
        obtain ⟨x0, x1, x2, x3, x4, x5, x6, x7, x8, x9, x10⟩ := RecAt.of_blk (R := (⟨0, work, prev, 0, 1, page, key, old, new, [], []⟩ : Rec)) (S := (⟨⟨Ak, key.length, ck⟩, ⟨Ao, old.length, co⟩, ⟨An, new.length, cn⟩, ⟨none, 0, 0⟩, ⟨none, 0, 0⟩⟩ : RecS)) XQ.out
        simp only at x0 x1 x2 x3 x4 x5 x6 x7 x8 x9 x10
        have xf := XQ.out.frozen
        have hno := Lib.hid (show getR zs = none by rw [HG.out, hse]; exact fin_no hrr)
        clear hrr tq hRt
        go_wp2_with fail
        obtain ⟨wz, hwz, XZ, tZ⟩ := fin11 (.int .i64 0) (.int .i64 0) (.int .i64 0) (.int .i64 0) (.int .u8 0) (.int .i64 0) (.slice none 0 0) (.slice none 0 0) (.slice none 0 0) (.slice none 0 0) (.slice none 0 0) RBQ.out
        rw [hwz]
        clear hwz
        have TZ := TQ.out.trans (W := fun _ => False) tZ (fun _ e => e) (fun i e => .inr (by omega))
        obtain ⟨e0, e1, e2, e3, e4, e5, e6, e7, e8, e9, e10⟩ := XZ.cells11
        refine bodyPost_ret (v := .tuple #[.agg #[.int .i64 0, .int .i64 0, .int .i64 0, .int .i64 0, .int .u8 0, .int .i64 0, .slice none 0 0, .slice none 0 0, .slice none 0 0, .slice none 0 0, .slice none 0 0], .int .i64 0, .int .i64 4]) (by simp [results, Tryz.results21, go_sem, e0, e1, e2, e3, e4, e5, e6, e7, e8, e9, e10]) rfl ?_
        exact .inr ⟨hno.out, rfl, TZ⟩
      | true =>
        rw [hrr] at hRt
        refine hRt.mono ?_
        rintro e wq ⟨rfl, tq⟩
        have TQ := Lib.hid (T17.out.and_ tq)
        have RBQ := Lib.hid (RB17.out.turned tq (fun e => e))
        have XQ := Lib.hid (X17.out.turned tq (fun e => e))
        have HOQ := Lib.hid (HO.out.fresh tq)
        clear x0 x1 x2 x3 x4 x5 x6 x7 x8 x9 x10 xf
        obtain ⟨y0, y1, y2, y3, y4, y5, y6, y7, y8, y9, y10⟩ := RecAt.of_blk (R := Rec.zero) (S := RecS.nil) RBQ.out
        simp only [Rec.zero, RecS.nil, Sl.nil] at y0 y1 y2 y3 y4 y5 y6 y7 y8 y9 y10
        have yf := RBQ.out.frozen
        obtain ⟨x0, x1, x2, x3, x4, x5, x6, x7, x8, x9, x10⟩ := RecAt.of_blk (R := (⟨0, work, prev, 0, 1, page, key, old, new, [], []⟩ : Rec)) (S := (⟨⟨Ak, key.length, ck⟩, ⟨Ao, old.length, co⟩, ⟨An, new.length, cn⟩, ⟨none, 0, 0⟩, ⟨none, 0, 0⟩⟩ : RecS)) XQ.out
        simp only at x0 x1 x2 x3 x4 x5 x6 x7 x8 x9 x10
        have xf := XQ.out.frozen
        have hys := Lib.hid (show getR zs = some ((⟨0, work, prev, 0, 1, page, key, old, new, [], []⟩ : Rec), 2 + m) by rw [HG.out, hse]; exact fin_yes hrr)
        clear hrr HG tq hRt
        go_wp2_with fail
        obtain ⟨wz, hwz, XZ, tZ⟩ := fin11 (.int .i64 0) (.int .i64 work) (.int .i64 prev) (.int .i64 0) (.int .u8 1) (.int .i64 page) (.slice Ak key.length ck) (.slice Ao old.length co) (.slice An new.length cn) (.slice none 0 0) (.slice none 0 0) RBQ.out
        rw [hwz]
        clear hwz
        have TZ := TQ.out.trans (W := fun _ => False) tZ (fun _ e => e) (fun i e => .inr (by omega))
        obtain ⟨e0, e1, e2, e3, e4, e5, e6, e7, e8, e9, e10⟩ := XZ.cells11
        refine bodyPost_ret (v := .tuple #[.agg #[.int .i64 0, .int .i64 work, .int .i64 prev, .int .i64 0, .int .u8 1, .int .i64 page, .slice Ak key.length ck, .slice Ao old.length co, .slice An new.length cn, .slice none 0 0, .slice none 0 0], .int .i64 (2 + (m : Int)), .int .i64 0]) (by simp [results, Tryz.results21, go_sem, e0, e1, e2, e3, e4, e5, e6, e7, e8, e9, e10]) rfl ?_
        have HZ : RecOwn wz w.heap.size (⟨0, work, prev, 0, 1, page, key, old, new, [], []⟩ : Rec) (⟨⟨Ak, key.length, ck⟩, ⟨Ao, old.length, co⟩, ⟨An, new.length, cn⟩, ⟨none, 0, 0⟩, ⟨none, 0, 0⟩⟩ : RecS) := HOQ.out.moved tZ (fun i e => by omega) RBQ.out (by decide) (by decide) (by decide)
        exact .inl ⟨_, 2 + m, (⟨⟨Ak, key.length, ck⟩, ⟨Ao, old.length, co⟩, ⟨An, new.length, cn⟩, ⟨none, 0, 0⟩, ⟨none, 0, 0⟩⟩ : RecS), hys.out, by rw [Int.natCast_add]; rfl, HZ, TZ⟩
set_option maxRecDepth 100000 in
set_option maxHeartbeats 2000000 in
theorem fget_2 (A : Option Addr) (n c : Nat) (zs : List Int) (w : World) (h : BytS w A n c zs) (hb : ∀ z ∈ zs, isByte z) (hnc : n ≤ c) (hc : c ≤ maxLen) (hn6 : n ≤ 1000000) (hk : kindOf zs = 2) : Calls Tryz.prog 21 #[.slice A n c] w (RGet zs w) := by
  have hbS : ∀ ys, (some zs : Option (List Int)) = some ys → ∀ y ∈ ys, isByte y := fun ys e y hy => by injection e with e; subst e; exact hb y hy
  obtain ⟨m, hm, hm2⟩ := numS2_nat (some zs) hbS
  have hG : getR zs = finR m (restS (kindOf zs) (numS 1 (inS m (numS 2 (some zs)).2)).2) := by
    unfold getR getS kindOf
    rw [hm, Int.toNat_natCast]
  have hkd : (numS 1 (inS m (numS 2 (some zs)).2)).1 = kindOf zs := by
    unfold kindOf
    rw [hm, Int.toNat_natCast]
  obtain ⟨kk, hkk, hk255⟩ := numS1_nat (inS m (numS 2 (some zs)).2) (inS_bytes (numS_bytes hbS))
  rw [hkd] at hkk
  rw [hk] at hG
  clear hkk hk255
  have hcm := hc
  unfold maxLen at hcm
  have hpl : 0 < n → PlF (w.heap.size + 1) (w.heap.size + 2) A := fun h0 => by
    obtain ⟨b, off, e, hcl⟩ := h.cell h0
    have := World.block_lt_of_cell? w ⟨b, off + 0, none⟩ (hcl 0 h0)
    exact .inr ⟨b, off, e, by simp at this; omega, by simp at this; omega⟩
  have hRB := (Blk.new w 29 #[.int .i64 0, .int .i64 0, .int .i64 0, .int .i64 0, .int .u8 0, .int .i64 0, .slice none 0 0, .slice none 0 0, .slice none 0 0, .slice none 0 0, .slice none 0 0]).alloc (.cells #[.slice A n c, .bool false] 118)
  have hRd : RdF ((w.alloc (.cells #[.int .i64 0, .int .i64 0, .int .i64 0, .int .i64 0, .int .u8 0, .int .i64 0, .slice none 0 0, .slice none 0 0, .slice none 0 0, .slice none 0 0, .slice none 0 0] 29)).alloc (.cells #[.slice A n c, .bool false] 118)) (w.heap.size + 1) A n c false := Blk.new_at _ _ _ (by simp)
  have hT := ((Turned.refl (fun _ => False) w).alloc (.cells #[.int .i64 0, .int .i64 0, .int .i64 0, .int .i64 0, .int .u8 0, .int .i64 0, .slice none 0 0, .slice none 0 0, .slice none 0 0, .slice none 0 0, .slice none 0 0] 29)).alloc (.cells #[.slice A n c, .bool false] 118)
  have hs0 : ((w.alloc (.cells #[.int .i64 0, .int .i64 0, .int .i64 0, .int .i64 0, .int .u8 0, .int .i64 0, .slice none 0 0, .slice none 0 0, .slice none 0 0, .slice none 0 0, .slice none 0 0] 29)).alloc (.cells #[.slice A n c, .bool false] 118)).heap.size = w.heap.size + 2 := by simp
  have hN1 : Calls Tryz.prog 61 #[.pointer (some ⟨w.heap.size + 1, 0, none⟩), .int .i64 (2 : Nat)] ((w.alloc (.cells #[.int .i64 0, .int .i64 0, .int .i64 0, .int .i64 0, .int .u8 0, .int .i64 0, .slice none 0 0, .slice none 0 0, .slice none 0 0, .slice none 0 0, .slice none 0 0] 29)).alloc (.cells #[.slice A n c, .bool false] 118)) (NmPost (w.heap.size + 1) (w.heap.size + 2) 2 (some zs) ((w.alloc (.cells #[.int .i64 0, .int .i64 0, .int .i64 0, .int .i64 0, .int .u8 0, .int .i64 0, .slice none 0 0, .slice none 0 0, .slice none 0 0, .slice none 0 0, .slice none 0 0] 29)).alloc (.cells #[.slice A n c, .bool false] 118))) := by
    rcases Nat.lt_or_ge n 2 with hlt | hge
    · exact fnum_by _ _ 2 (some zs) _ (ftake_short _ _ A n c 2 false _ hRd (by omega) (by omega) (by omega) (.inr hlt) (some zs) (takeS_short (by rw [h.len]; exact hlt))) (by omega) hbS
    · exact fnum_any _ _ 2 (some zs) _ ⟨by omega, A, n, c, hRd, h.turned hT (fun _ _ _ e => e), hnc, hc, hpl (by omega), hn6⟩ (by omega) (by omega) hbS
  unfold NmPost at hN1
  rw [hm] at hN1
  have hb1 := Lib.hid (numS_bytes (k := 2) hbS)
  have hN1' := Lib.hid hN1
  have RB0 := Lib.hid hRB
  have T0 := Lib.hid hT
  have HG := Lib.hid hG
  have HKD := Lib.hid hkd
  clear hN1 hRB hRd hT hG hkd hm hpl h hb hbS
  generalize (numS 2 (some zs)).2 = s1 at *
  go_enter Tryz.func21, Tryz.ntmps21
  go_wp2_with fail
  generalize ((w.alloc (.cells #[.int .i64 0, .int .i64 0, .int .i64 0, .int .i64 0, .int .u8 0, .int .i64 0, .slice none 0 0, .slice none 0 0, .slice none 0 0, .slice none 0 0, .slice none 0 0] 29)).alloc (.cells #[.slice A n c, .bool false] 118)) = w0 at *
  refine hN1'.out.mono ?_
  rintro e w1 ⟨rfl, hR1, t1⟩
  have R1 := Lib.hid hR1
  have hsz1 : w.heap.size + 2 ≤ w1.heap.size := by have := t1.size; omega
  have T1 := Lib.hid (T0.out.trans (W := fun _ => False) t1 (fun _ e => e) (fun i e => .inr (by omega)))
  have RB1 := Lib.hid (RB0.out.turned t1 (fun e => by omega))
  clear hR1 t1 T0 RB0 hN1'
  go_wp2_with fail
  refine (ftake_any (w.heap.size + 1) _ m s1 w1 R1.out (by omega)).mono ?_
  rintro e w2 ⟨A2, c2, rfl, hy2, hg2, hR2, t2⟩
  obtain ⟨B, hBB⟩ : ∃ B, B = w2.heap.size := ⟨_, rfl⟩
  have R3 := Lib.hid (isF_in hy2 (fun g e => by have := hg2 g e; omega) hR2 (Nat.le_of_eq hBB.symm) (by omega))
  obtain ⟨A3, n3, c3, sh3, hq3⟩ := rdF_blk hR2
  have q0 : w2.cell? ⟨w.heap.size + 1, 0, none⟩ = some (.slice A3 n3 c3) := hq3.cell 0
  have f0 := hq3.frozen 0
  have t3 := t2.setCell (p := ⟨w.heap.size + 1, 0, none⟩) (.inl rfl) (.slice A2 (takeS m s1).1.length c2)
  have hsz2 : w.heap.size + 2 ≤ w2.heap.size := by have := t2.size; omega
  have hsB : (w2.setCell ⟨w.heap.size + 1, 0, none⟩ (.slice A2 (takeS m s1).1.length c2)).heap.size = B := by rw [hBB]; simp [World.setCell]
  have T3 := Lib.hid (T1.out.trans (W := fun _ => False) t3 (fun _ e => e) (fun i e => .inr (by omega)))
  have RB3 := Lib.hid (RB1.out.turned t3 (fun e => by omega))
  have hB2 : w.heap.size + 2 ≤ B := by omega
  have hBB := Lib.hid hBB
  clear hy2 hg2 hR2 t2 t3 hq3 R1 T1 RB1 hBB
  go_wp2_with fail
  generalize w2.setCell ⟨w.heap.size + 1, 0, none⟩ (.slice A2 (takeS m s1).1.length c2) = w3 at *
  have hN3 := fnum_any (w.heap.size + 1) B 1 (inS m s1) w3 R3.out (by omega) (by omega) (inS_bytes hb1.out)
  unfold NmPost at hN3
  rw [HKD.out, hk] at hN3
  refine hN3.mono ?_
  rintro e w4 ⟨rfl, hR4, t4⟩
  have R4 := Lib.hid hR4
  have hB4 : B ≤ w4.heap.size := by have := t4.size; omega
  have T4 := Lib.hid (T3.out.trans (W := fun _ => False) t4 (fun _ e => e) (fun i e => .inr (by omega)))
  have RB4 := Lib.hid (RB3.out.turned t4 (fun e => by omega))
  have hb4 := Lib.hid (numS_bytes (k := 1) (inS_bytes hb1.out (k := m)))
  clear hR4 t4 T3 RB3 R3 q0 f0 hN3 hb1 hsB
  generalize (numS 1 (inS m s1)).2 = s4 at *
  clear HKD
  have hwr : w.heap.size < w.heap.size + 1 := by omega
  have HG := Lib.hid (show getR zs = finR m ((⟨0, (numS 8 s4).1, (numS 8 (numS 8 s4).2).1, (numS 8 (numS 8 (numS 8 s4).2).2).1, 2, (numS 2 (numS 8 (numS 8 (numS 8 s4).2).2).2).1, (rowS (numS 2 (numS 8 (numS 8 (numS 8 s4).2).2).2).2).1, (rowS (rowS (numS 2 (numS 8 (numS 8 (numS 8 s4).2).2).2).2).2).1, (rowS (rowS (rowS (numS 2 (numS 8 (numS 8 (numS 8 s4).2).2).2).2).2).2).1, [], []⟩ : Rec), (rowS (rowS (rowS (numS 2 (numS 8 (numS 8 (numS 8 s4).2).2).2).2).2).2).2) from HG.out)
  generalize w.heap.size + 1 = r at *
  have H1 := Lib.hid (fun (w' : World) (h : IsF w' r B s4) (hB : B ≤ w'.heap.size) => fnum_any r B 8 s4 w' h hB (by omega) hb4.out)
  have hb5 := Lib.hid (numS_bytes (k := 8) hb4.out)
  unfold NmPost at H1
  generalize (numS 8 s4).1 = work at *
  generalize (numS 8 s4).2 = s5 at *
  clear hb4
  have H2 := Lib.hid (fun (w' : World) (h : IsF w' r B s5) (hB : B ≤ w'.heap.size) => fnum_any r B 8 s5 w' h hB (by omega) hb5.out)
  have hb6 := Lib.hid (numS_bytes (k := 8) hb5.out)
  unfold NmPost at H2
  generalize (numS 8 s5).1 = prev at *
  generalize (numS 8 s5).2 = s6 at *
  clear hb5
  have H3 := Lib.hid (fun (w' : World) (h : IsF w' r B s6) (hB : B ≤ w'.heap.size) => fnum_any r B 8 s6 w' h hB (by omega) hb6.out)
  have hb7 := Lib.hid (numS_bytes (k := 8) hb6.out)
  unfold NmPost at H3
  generalize (numS 8 s6).1 = next at *
  generalize (numS 8 s6).2 = s7 at *
  clear hb6
  have H4 := Lib.hid (fun (w' : World) (h : IsF w' r B s7) (hB : B ≤ w'.heap.size) => fnum_any r B 2 s7 w' h hB (by omega) hb7.out)
  have hb8 := Lib.hid (numS_bytes (k := 2) hb7.out)
  unfold NmPost at H4
  generalize (numS 2 s7).1 = page at *
  generalize (numS 2 s7).2 = s8 at *
  clear hb7
  have H5 := Lib.hid (fun (w' : World) (h : IsF w' r B s8) (hB : B ≤ w'.heap.size) => frrow_any r B s8 w' h hB hb8.out)
  have hb9 := Lib.hid (rowS_bytes hb8.out)
  have hlkey := rowS_len s8 hb8.out
  unfold FRowPost at H5
  generalize (rowS s8).1 = key at *
  generalize (rowS s8).2 = s9 at *
  clear hb8
  have H6 := Lib.hid (fun (w' : World) (h : IsF w' r B s9) (hB : B ≤ w'.heap.size) => frrow_any r B s9 w' h hB hb9.out)
  have hb10 := Lib.hid (rowS_bytes hb9.out)
  have hlold := rowS_len s9 hb9.out
  unfold FRowPost at H6
  generalize (rowS s9).1 = old at *
  generalize (rowS s9).2 = s10 at *
  clear hb9
  have H7 := Lib.hid (fun (w' : World) (h : IsF w' r B s10) (hB : B ≤ w'.heap.size) => frrow_any r B s10 w' h hB hb10.out)
  have hb11 := Lib.hid (rowS_bytes hb10.out)
  have hlnew := rowS_len s10 hb10.out
  unfold FRowPost at H7
  generalize (rowS s10).1 = new at *
  generalize (rowS s10).2 = s11 at *
  clear hb10
  have X5 := Lib.hid (Blk.new w4 29 (recC (⟨0, 0, 0, 0, 2, 0, [], [], [], [], []⟩ : Rec) (⟨⟨none, 0, 0⟩, ⟨none, 0, 0⟩, ⟨none, 0, 0⟩, ⟨none, 0, 0⟩, ⟨none, 0, 0⟩⟩ : RecS)))
  have t5 := (Turned.refl (fun _ => False) w4).alloc (.cells (recC (⟨0, 0, 0, 0, 2, 0, [], [], [], [], []⟩ : Rec) (⟨⟨none, 0, 0⟩, ⟨none, 0, 0⟩, ⟨none, 0, 0⟩, ⟨none, 0, 0⟩, ⟨none, 0, 0⟩⟩ : RecS)) 29)
  have hsz5 : w4.heap.size + 1 ≤ (w4.alloc (.cells (recC (⟨0, 0, 0, 0, 2, 0, [], [], [], [], []⟩ : Rec) (⟨⟨none, 0, 0⟩, ⟨none, 0, 0⟩, ⟨none, 0, 0⟩, ⟨none, 0, 0⟩, ⟨none, 0, 0⟩⟩ : RecS)) 29)).heap.size := by simp
  have R5 := Lib.hid (R4.out.fresh t5 (Nat.le_refl _))
  have hrB := R4.out.lt.2
  have T5 := Lib.hid (T4.out.and_ t5)
  have RB5 := Lib.hid (RB4.out.turned t5 (fun e => e))
  clear t5 R4 T4 RB4
  unfold recC at X5 hsz5 R5 T5 RB5
  simp only at X5 hsz5 R5 T5 RB5
  go_wp2_with fail
  generalize w4.alloc (.cells #[.int .i64 0, .int .i64 0, .int .i64 0, .int .i64 0, .int .u8 2, .int .i64 0, .slice none 0 0, .slice none 0 0, .slice none 0 0, .slice none 0 0, .slice none 0 0] 29) = w5 at *
  generalize w4.heap.size = xb at *
  have hne1 : ¬ (r = xb) := by omega
  have hne2 : ¬ (xb = r) := by omega
  have hne3 : ¬ (w.heap.size = xb) := by omega
  have hne4 : ¬ (xb = w.heap.size) := by omega
  have hne5 : ¬ (w.heap.size = r) := by omega
  have hne6 : ¬ (r = w.heap.size) := by omega
  have RB5 : Hid (Blk w5 w.heap.size 29 (recC Rec.zero RecS.nil)) := RB5
  obtain ⟨x0, x1, x2, x3, x4, x5, x6, x7, x8, x9, x10⟩ := RecAt.of_blk (R := (⟨0, 0, 0, 0, 2, 0, [], [], [], [], []⟩ : Rec)) (S := (⟨⟨none, 0, 0⟩, ⟨none, 0, 0⟩, ⟨none, 0, 0⟩, ⟨none, 0, 0⟩, ⟨none, 0, 0⟩⟩ : RecS)) X5.out
  simp only at x0 x1 x2 x3 x4 x5 x6 x7 x8 x9 x10
  have xf := X5.out.frozen
  refine (H1.out _ R5.out (by omega)).mono ?_
  rintro e w6 ⟨rfl, hR, t⟩
  have R6 := Lib.hid hR
  have T6 := Lib.hid (T5.out.trans (W := fun _ => False) t (fun _ e => e) (fun i e => .inr (by omega)))
  have RB6 := Lib.hid (RB5.out.turned t (fun e => by omega))
  have X6 := Lib.hid (X5.out.turned t (fun e => by omega))
  have hsz6 := Nat.le_trans hsz5 t.size
  have hmo6 := t.size
  clear hR t R5 T5 RB5 X5
  clear x0 x1 x2 x3 x4 x5 x6 x7 x8 x9 x10 xf
  obtain ⟨x0, x1, x2, x3, x4, x5, x6, x7, x8, x9, x10⟩ := RecAt.of_blk (R := (⟨0, 0, 0, 0, 2, 0, [], [], [], [], []⟩ : Rec)) (S := (⟨⟨none, 0, 0⟩, ⟨none, 0, 0⟩, ⟨none, 0, 0⟩, ⟨none, 0, 0⟩, ⟨none, 0, 0⟩⟩ : RecS)) X6.out
  simp only at x0 x1 x2 x3 x4 x5 x6 x7 x8 x9 x10
  have xf := X6.out.frozen
  go_wp2_with fail
  have tS := (Turned.refl (fun i => i = xb) w6).setCell (p := ⟨xb, 1, none⟩) (.inl rfl) (.int .i64 work)
  have X7 : Hid (Blk (w6.setCell ⟨xb, 1, none⟩ (.int .i64 work)) xb 29 (recC (⟨0, work, 0, 0, 2, 0, [], [], [], [], []⟩ : Rec) (⟨⟨none, 0, 0⟩, ⟨none, 0, 0⟩, ⟨none, 0, 0⟩, ⟨none, 0, 0⟩, ⟨none, 0, 0⟩⟩ : RecS))) := Lib.hid (X6.out.set_ 1 (.int .i64 work))
  have R7 := Lib.hid (R6.out.keep tS (fun i e => by omega) (Nat.le_refl _))
  have T7 := Lib.hid (T6.out.trans (W := fun _ => False) tS (fun _ e => e) (fun i e => .inr (by omega)))
  have RB7 := Lib.hid (RB6.out.turned tS (fun e => by omega))
  have hsz7 := Nat.le_trans hsz6 tS.size
  have hmo7 := tS.size
  clear tS X6 R6 T6 RB6
  generalize (w6.setCell ⟨xb, 1, none⟩ (.int .i64 work)) = w7 at *
  refine (H2.out _ R7.out (by omega)).mono ?_
  rintro e w8 ⟨rfl, hR, t⟩
  have R8 := Lib.hid hR
  have T8 := Lib.hid (T7.out.trans (W := fun _ => False) t (fun _ e => e) (fun i e => .inr (by omega)))
  have RB8 := Lib.hid (RB7.out.turned t (fun e => by omega))
  have X8 := Lib.hid (X7.out.turned t (fun e => by omega))
  have hsz8 := Nat.le_trans hsz7 t.size
  have hmo8 := t.size
  clear hR t R7 T7 RB7 X7
  clear x0 x1 x2 x3 x4 x5 x6 x7 x8 x9 x10 xf
  obtain ⟨x0, x1, x2, x3, x4, x5, x6, x7, x8, x9, x10⟩ := RecAt.of_blk (R := (⟨0, work, 0, 0, 2, 0, [], [], [], [], []⟩ : Rec)) (S := (⟨⟨none, 0, 0⟩, ⟨none, 0, 0⟩, ⟨none, 0, 0⟩, ⟨none, 0, 0⟩, ⟨none, 0, 0⟩⟩ : RecS)) X8.out
  simp only at x0 x1 x2 x3 x4 x5 x6 x7 x8 x9 x10
  have xf := X8.out.frozen
  go_wp2_with fail
  have tS := (Turned.refl (fun i => i = xb) w8).setCell (p := ⟨xb, 2, none⟩) (.inl rfl) (.int .i64 prev)
  have X9 : Hid (Blk (w8.setCell ⟨xb, 2, none⟩ (.int .i64 prev)) xb 29 (recC (⟨0, work, prev, 0, 2, 0, [], [], [], [], []⟩ : Rec) (⟨⟨none, 0, 0⟩, ⟨none, 0, 0⟩, ⟨none, 0, 0⟩, ⟨none, 0, 0⟩, ⟨none, 0, 0⟩⟩ : RecS))) := Lib.hid (X8.out.set_ 2 (.int .i64 prev))
  have R9 := Lib.hid (R8.out.keep tS (fun i e => by omega) (Nat.le_refl _))
  have T9 := Lib.hid (T8.out.trans (W := fun _ => False) tS (fun _ e => e) (fun i e => .inr (by omega)))
  have RB9 := Lib.hid (RB8.out.turned tS (fun e => by omega))
  have hsz9 := Nat.le_trans hsz8 tS.size
  have hmo9 := tS.size
  clear tS X8 R8 T8 RB8
  generalize (w8.setCell ⟨xb, 2, none⟩ (.int .i64 prev)) = w9 at *
  refine (H3.out _ R9.out (by omega)).mono ?_
  rintro e w10 ⟨rfl, hR, t⟩
  have R10 := Lib.hid hR
  have T10 := Lib.hid (T9.out.trans (W := fun _ => False) t (fun _ e => e) (fun i e => .inr (by omega)))
  have RB10 := Lib.hid (RB9.out.turned t (fun e => by omega))
  have X10 := Lib.hid (X9.out.turned t (fun e => by omega))
  have hsz10 := Nat.le_trans hsz9 t.size
  have hmo10 := t.size
  clear hR t R9 T9 RB9 X9
  clear x0 x1 x2 x3 x4 x5 x6 x7 x8 x9 x10 xf
  obtain ⟨x0, x1, x2, x3, x4, x5, x6, x7, x8, x9, x10⟩ := RecAt.of_blk (R := (⟨0, work, prev, 0, 2, 0, [], [], [], [], []⟩ : Rec)) (S := (⟨⟨none, 0, 0⟩, ⟨none, 0, 0⟩, ⟨none, 0, 0⟩, ⟨none, 0, 0⟩, ⟨none, 0, 0⟩⟩ : RecS)) X10.out
  simp only at x0 x1 x2 x3 x4 x5 x6 x7 x8 x9 x10
  have xf := X10.out.frozen
  go_wp2_with fail
  have tS := (Turned.refl (fun i => i = xb) w10).setCell (p := ⟨xb, 3, none⟩) (.inl rfl) (.int .i64 next)
  have X11 : Hid (Blk (w10.setCell ⟨xb, 3, none⟩ (.int .i64 next)) xb 29 (recC (⟨0, work, prev, next, 2, 0, [], [], [], [], []⟩ : Rec) (⟨⟨none, 0, 0⟩, ⟨none, 0, 0⟩, ⟨none, 0, 0⟩, ⟨none, 0, 0⟩, ⟨none, 0, 0⟩⟩ : RecS))) := Lib.hid (X10.out.set_ 3 (.int .i64 next))
  have R11 := Lib.hid (R10.out.keep tS (fun i e => by omega) (Nat.le_refl _))
  have T11 := Lib.hid (T10.out.trans (W := fun _ => False) tS (fun _ e => e) (fun i e => .inr (by omega)))
  have RB11 := Lib.hid (RB10.out.turned tS (fun e => by omega))
  have hsz11 := Nat.le_trans hsz10 tS.size
  have hmo11 := tS.size
  clear tS X10 R10 T10 RB10
  generalize (w10.setCell ⟨xb, 3, none⟩ (.int .i64 next)) = w11 at *
  refine (H4.out _ R11.out (by omega)).mono ?_
  rintro e w12 ⟨rfl, hR, t⟩
  have R12 := Lib.hid hR
  have T12 := Lib.hid (T11.out.trans (W := fun _ => False) t (fun _ e => e) (fun i e => .inr (by omega)))
  have RB12 := Lib.hid (RB11.out.turned t (fun e => by omega))
  have X12 := Lib.hid (X11.out.turned t (fun e => by omega))
  have hsz12 := Nat.le_trans hsz11 t.size
  have hmo12 := t.size
  clear hR t R11 T11 RB11 X11
  clear x0 x1 x2 x3 x4 x5 x6 x7 x8 x9 x10 xf
  obtain ⟨x0, x1, x2, x3, x4, x5, x6, x7, x8, x9, x10⟩ := RecAt.of_blk (R := (⟨0, work, prev, next, 2, 0, [], [], [], [], []⟩ : Rec)) (S := (⟨⟨none, 0, 0⟩, ⟨none, 0, 0⟩, ⟨none, 0, 0⟩, ⟨none, 0, 0⟩, ⟨none, 0, 0⟩⟩ : RecS)) X12.out
  simp only at x0 x1 x2 x3 x4 x5 x6 x7 x8 x9 x10
  have xf := X12.out.frozen
  go_wp2_with fail
  have tS := (Turned.refl (fun i => i = xb) w12).setCell (p := ⟨xb, 5, none⟩) (.inl rfl) (.int .i64 page)
  have X13 : Hid (Blk (w12.setCell ⟨xb, 5, none⟩ (.int .i64 page)) xb 29 (recC (⟨0, work, prev, next, 2, page, [], [], [], [], []⟩ : Rec) (⟨⟨none, 0, 0⟩, ⟨none, 0, 0⟩, ⟨none, 0, 0⟩, ⟨none, 0, 0⟩, ⟨none, 0, 0⟩⟩ : RecS))) := Lib.hid (X12.out.set_ 5 (.int .i64 page))
  have R13 := Lib.hid (R12.out.keep tS (fun i e => by omega) (Nat.le_refl _))
  have T13 := Lib.hid (T12.out.trans (W := fun _ => False) tS (fun _ e => e) (fun i e => .inr (by omega)))
  have RB13 := Lib.hid (RB12.out.turned tS (fun e => by omega))
  have hsz13 := Nat.le_trans hsz12 tS.size
  have hmo13 := tS.size
  clear tS X12 R12 T12 RB12
  generalize (w12.setCell ⟨xb, 5, none⟩ (.int .i64 page)) = w13 at *
  refine (H5.out _ R13.out (by omega)).mono ?_
  rintro e w14 ⟨Ak, ck, rfl, ow, ob, hR, t⟩
  have owk := Lib.hid ow
  have owkB := Lib.hid (fun g (e : Ak = some ⟨g, 0, none⟩) => (show xb < g by have := ob g e; omega))
  have owkS := Lib.hid (fun g (e : Ak = some ⟨g, 0, none⟩) => (show w13.heap.size ≤ g ∧ g < w14.heap.size from ⟨ob g e, ow.lt e⟩))
  clear ow ob
  have R14 := Lib.hid hR
  have T14 := Lib.hid (T13.out.trans (W := fun _ => False) t (fun _ e => e) (fun i e => .inr (by omega)))
  have RB14 := Lib.hid (RB13.out.turned t (fun e => by omega))
  have X14 := Lib.hid (X13.out.turned t (fun e => by omega))
  have hsz14 := Nat.le_trans hsz13 t.size
  have hmo14 := t.size
  clear hR t R13 T13 RB13 X13
  clear x0 x1 x2 x3 x4 x5 x6 x7 x8 x9 x10 xf
  obtain ⟨x0, x1, x2, x3, x4, x5, x6, x7, x8, x9, x10⟩ := RecAt.of_blk (R := (⟨0, work, prev, next, 2, page, [], [], [], [], []⟩ : Rec)) (S := (⟨⟨none, 0, 0⟩, ⟨none, 0, 0⟩, ⟨none, 0, 0⟩, ⟨none, 0, 0⟩, ⟨none, 0, 0⟩⟩ : RecS)) X14.out
  simp only at x0 x1 x2 x3 x4 x5 x6 x7 x8 x9 x10
  have xf := X14.out.frozen
  go_wp2_with fail
  have tS := (Turned.refl (fun i => i = xb) w14).setCell (p := ⟨xb, 6, none⟩) (.inl rfl) (.slice Ak key.length ck)
  have X15 : Hid (Blk (w14.setCell ⟨xb, 6, none⟩ (.slice Ak key.length ck)) xb 29 (recC (⟨0, work, prev, next, 2, page, key, [], [], [], []⟩ : Rec) (⟨⟨Ak, key.length, ck⟩, ⟨none, 0, 0⟩, ⟨none, 0, 0⟩, ⟨none, 0, 0⟩, ⟨none, 0, 0⟩⟩ : RecS))) := Lib.hid (X14.out.set_ 6 (.slice Ak key.length ck))
  have R15 := Lib.hid (R14.out.keep tS (fun i e => by omega) (Nat.le_refl _))
  have T15 := Lib.hid (T14.out.trans (W := fun _ => False) tS (fun _ e => e) (fun i e => .inr (by omega)))
  have RB15 := Lib.hid (RB14.out.turned tS (fun e => by omega))
  have hsz15 := Nat.le_trans hsz14 tS.size
  have hmo15 := tS.size
  have owk := Lib.hid (owk.out.turned tS (fun g e e2 => owk.out.blk X14.out (by decide) e e2))
  clear tS X14 R14 T14 RB14
  generalize (w14.setCell ⟨xb, 6, none⟩ (.slice Ak key.length ck)) = w15 at *
  refine (H6.out _ R15.out (by omega)).mono ?_
  rintro e w16 ⟨Ao, co, rfl, ow, ob, hR, t⟩
  have owo := Lib.hid ow
  have owoB := Lib.hid (fun g (e : Ao = some ⟨g, 0, none⟩) => (show xb < g by have := ob g e; omega))
  have owoS := Lib.hid (fun g (e : Ao = some ⟨g, 0, none⟩) => (show w15.heap.size ≤ g ∧ g < w16.heap.size from ⟨ob g e, ow.lt e⟩))
  clear ow ob
  have R16 := Lib.hid hR
  have T16 := Lib.hid (T15.out.trans (W := fun _ => False) t (fun _ e => e) (fun i e => .inr (by omega)))
  have RB16 := Lib.hid (RB15.out.turned t (fun e => by omega))
  have X16 := Lib.hid (X15.out.turned t (fun e => by omega))
  have hsz16 := Nat.le_trans hsz15 t.size
  have hmo16 := t.size
  have owk := Lib.hid (owk.out.turned t (fun g e e2 => by have := owkB.out g e; omega))
  clear hR t R15 T15 RB15 X15
  clear x0 x1 x2 x3 x4 x5 x6 x7 x8 x9 x10 xf
  obtain ⟨x0, x1, x2, x3, x4, x5, x6, x7, x8, x9, x10⟩ := RecAt.of_blk (R := (⟨0, work, prev, next, 2, page, key, [], [], [], []⟩ : Rec)) (S := (⟨⟨Ak, key.length, ck⟩, ⟨none, 0, 0⟩, ⟨none, 0, 0⟩, ⟨none, 0, 0⟩, ⟨none, 0, 0⟩⟩ : RecS)) X16.out
  simp only at x0 x1 x2 x3 x4 x5 x6 x7 x8 x9 x10
  have xf := X16.out.frozen
  go_wp2_with fail
  have tS := (Turned.refl (fun i => i = xb) w16).setCell (p := ⟨xb, 7, none⟩) (.inl rfl) (.slice Ao old.length co)
  have X17 : Hid (Blk (w16.setCell ⟨xb, 7, none⟩ (.slice Ao old.length co)) xb 29 (recC (⟨0, work, prev, next, 2, page, key, old, [], [], []⟩ : Rec) (⟨⟨Ak, key.length, ck⟩, ⟨Ao, old.length, co⟩, ⟨none, 0, 0⟩, ⟨none, 0, 0⟩, ⟨none, 0, 0⟩⟩ : RecS))) := Lib.hid (X16.out.set_ 7 (.slice Ao old.length co))
  have R17 := Lib.hid (R16.out.keep tS (fun i e => by omega) (Nat.le_refl _))
  have T17 := Lib.hid (T16.out.trans (W := fun _ => False) tS (fun _ e => e) (fun i e => .inr (by omega)))
  have RB17 := Lib.hid (RB16.out.turned tS (fun e => by omega))
  have hsz17 := Nat.le_trans hsz16 tS.size
  have hmo17 := tS.size
  have owk := Lib.hid (owk.out.turned tS (fun g e e2 => owk.out.blk X16.out (by decide) e e2))
  have owo := Lib.hid (owo.out.turned tS (fun g e e2 => owo.out.blk X16.out (by decide) e e2))
  clear tS X16 R16 T16 RB16
  generalize (w16.setCell ⟨xb, 7, none⟩ (.slice Ao old.length co)) = w17 at *
  refine (H7.out _ R17.out (by omega)).mono ?_
  rintro e w18 ⟨An, cn, rfl, ow, ob, hR, t⟩
  have own := Lib.hid ow
  have ownB := Lib.hid (fun g (e : An = some ⟨g, 0, none⟩) => (show xb < g by have := ob g e; omega))
  have ownS := Lib.hid (fun g (e : An = some ⟨g, 0, none⟩) => (show w17.heap.size ≤ g ∧ g < w18.heap.size from ⟨ob g e, ow.lt e⟩))
  clear ow ob
  have R18 := Lib.hid hR
  have T18 := Lib.hid (T17.out.trans (W := fun _ => False) t (fun _ e => e) (fun i e => .inr (by omega)))
  have RB18 := Lib.hid (RB17.out.turned t (fun e => by omega))
  have X18 := Lib.hid (X17.out.turned t (fun e => by omega))
  have hsz18 := Nat.le_trans hsz17 t.size
  have hmo18 := t.size
  have owk := Lib.hid (owk.out.turned t (fun g e e2 => by have := owkB.out g e; omega))
  have owo := Lib.hid (owo.out.turned t (fun g e e2 => by have := owoB.out g e; omega))
  clear hR t R17 T17 RB17 X17
  clear x0 x1 x2 x3 x4 x5 x6 x7 x8 x9 x10 xf
  obtain ⟨x0, x1, x2, x3, x4, x5, x6, x7, x8, x9, x10⟩ := RecAt.of_blk (R := (⟨0, work, prev, next, 2, page, key, old, [], [], []⟩ : Rec)) (S := (⟨⟨Ak, key.length, ck⟩, ⟨Ao, old.length, co⟩, ⟨none, 0, 0⟩, ⟨none, 0, 0⟩, ⟨none, 0, 0⟩⟩ : RecS)) X18.out
  simp only at x0 x1 x2 x3 x4 x5 x6 x7 x8 x9 x10
  have xf := X18.out.frozen
  cases hse : s11 with
  | none =>
    rw [hse] at R18
    obtain ⟨Ar, nr, cr, r0, r1⟩ := rdF_end R18.out
    obtain ⟨y0, y1, y2, y3, y4, y5, y6, y7, y8, y9, y10⟩ := RecAt.of_blk (R := Rec.zero) (S := RecS.nil) RB18.out
    simp only [Rec.zero, RecS.nil, Sl.nil] at y0 y1 y2 y3 y4 y5 y6 y7 y8 y9 y10
    have yf := RB18.out.frozen
    have hno := Lib.hid (show getR zs = none by rw [HG.out, hse]; exact fin_none _ _)
    go_wp2_with fail
    have tS := (Turned.refl (fun i => i = xb) w18).setCell (p := ⟨xb, 8, none⟩) (.inl rfl) (.slice An new.length cn)
    have TS := Lib.hid (T18.out.trans (W := fun _ => False) tS (fun _ e => e) (fun i e => .inr (by omega)))
    have RBS := Lib.hid (RB18.out.turned tS (fun e => by omega))
    generalize (w18.setCell ⟨xb, 8, none⟩ (.slice An new.length cn)) = ws at *
    obtain ⟨wz, hwz, XZ, tZ⟩ := fin11 (.int .i64 0) (.int .i64 0) (.int .i64 0) (.int .i64 0) (.int .u8 0) (.int .i64 0) (.slice none 0 0) (.slice none 0 0) (.slice none 0 0) (.slice none 0 0) (.slice none 0 0) RBS.out
    rw [hwz]
    clear hwz
    have TZ := TS.out.trans (W := fun _ => False) tZ (fun _ e => e) (fun i e => .inr (by omega))
    obtain ⟨e0, e1, e2, e3, e4, e5, e6, e7, e8, e9, e10⟩ := XZ.cells11
    refine bodyPost_ret (v := .tuple #[.agg #[.int .i64 0, .int .i64 0, .int .i64 0, .int .i64 0, .int .u8 0, .int .i64 0, .slice none 0 0, .slice none 0 0, .slice none 0 0, .slice none 0 0, .slice none 0 0], .int .i64 0, .int .i64 4]) (by simp [results, Tryz.results21, go_sem, e0, e1, e2, e3, e4, e5, e6, e7, e8, e9, e10]) rfl ?_
    exact .inr ⟨hno.out, rfl, TZ⟩
  | some ys =>
    cases ys with
    | cons y ys =>
      rw [hse] at R18
      obtain ⟨Ar, nr, cr, r0, r1, hn1, hn2⟩ := rdF_some R18.out
      have hn3 : (0 : Int) < (nr : Int) := by rw [hn1, List.length_cons]; omega
      have hn4 : 0 < nr := by omega
      clear hn1
      obtain ⟨y0, y1, y2, y3, y4, y5, y6, y7, y8, y9, y10⟩ := RecAt.of_blk (R := Rec.zero) (S := RecS.nil) RB18.out
      simp only [Rec.zero, RecS.nil, Sl.nil] at y0 y1 y2 y3 y4 y5 y6 y7 y8 y9 y10
      have yf := RB18.out.frozen
      have hno := Lib.hid (show getR zs = none by rw [HG.out, hse]; exact fin_more _ _ _ _)
      go_wp2_with fail
      have tS := (Turned.refl (fun i => i = xb) w18).setCell (p := ⟨xb, 8, none⟩) (.inl rfl) (.slice An new.length cn)
      have TS := Lib.hid (T18.out.trans (W := fun _ => False) tS (fun _ e => e) (fun i e => .inr (by omega)))
      have RBS := Lib.hid (RB18.out.turned tS (fun e => by omega))
      generalize (w18.setCell ⟨xb, 8, none⟩ (.slice An new.length cn)) = ws at *
      obtain ⟨wz, hwz, XZ, tZ⟩ := fin11 (.int .i64 0) (.int .i64 0) (.int .i64 0) (.int .i64 0) (.int .u8 0) (.int .i64 0) (.slice none 0 0) (.slice none 0 0) (.slice none 0 0) (.slice none 0 0) (.slice none 0 0) RBS.out
      rw [hwz]
      clear hwz
      have TZ := TS.out.trans (W := fun _ => False) tZ (fun _ e => e) (fun i e => .inr (by omega))
      obtain ⟨e0, e1, e2, e3, e4, e5, e6, e7, e8, e9, e10⟩ := XZ.cells11
      refine bodyPost_ret (v := .tuple #[.agg #[.int .i64 0, .int .i64 0, .int .i64 0, .int .i64 0, .int .u8 0, .int .i64 0, .slice none 0 0, .slice none 0 0, .slice none 0 0, .slice none 0 0, .slice none 0 0], .int .i64 0, .int .i64 4]) (by simp [results, Tryz.results21, go_sem, e0, e1, e2, e3, e4, e5, e6, e7, e8, e9, e10]) rfl ?_
      exact .inr ⟨hno.out, rfl, TZ⟩
    | nil =>
      rw [hse] at R18
      obtain ⟨Ar, nr, cr, r0, r1, hn1, hn2⟩ := rdF_some R18.out
      obtain rfl : nr = 0 := hn1
      obtain ⟨y0, y1, y2, y3, y4, y5, y6, y7, y8, y9, y10⟩ := RecAt.of_blk (R := Rec.zero) (S := RecS.nil) RB18.out
      simp only [Rec.zero, RecS.nil, Sl.nil] at y0 y1 y2 y3 y4 y5 y6 y7 y8 y9 y10
      have yf := RB18.out.frozen
      go_wp2_with fail
      have tS := (Turned.refl (fun i => i = xb) w18).setCell (p := ⟨xb, 8, none⟩) (.inl rfl) (.slice An new.length cn)
      have T19 := Lib.hid (T18.out.trans (W := fun _ => False) tS (fun _ e => e) (fun i e => .inr (by omega)))
      have RB19 := Lib.hid (RB18.out.turned tS (fun e => by omega))
      have X19 : Hid (Blk (w18.setCell ⟨xb, 8, none⟩ (.slice An new.length cn)) xb 29 (recC (⟨0, work, prev, next, 2, page, key, old, new, [], []⟩ : Rec) (⟨⟨Ak, key.length, ck⟩, ⟨Ao, old.length, co⟩, ⟨An, new.length, cn⟩, ⟨none, 0, 0⟩, ⟨none, 0, 0⟩⟩ : RecS))) := Lib.hid (X18.out.set_ 8 (.slice An new.length cn))
      have owk := Lib.hid (owk.out.turned tS (fun g e e2 => owk.out.blk X18.out (by decide) e e2))
      have owo := Lib.hid (owo.out.turned tS (fun g e e2 => owo.out.blk X18.out (by decide) e e2))
      have own := Lib.hid (own.out.turned tS (fun g e e2 => own.out.blk X18.out (by decide) e e2))
      generalize (w18.setCell ⟨xb, 8, none⟩ (.slice An new.length cn)) = w19 at *
      clear tS X18 T18 RB18
      have hOwn : RecOwn w19 w.heap.size (⟨0, work, prev, next, 2, page, key, old, new, [], []⟩ : Rec) (⟨⟨Ak, key.length, ck⟩, ⟨Ao, old.length, co⟩, ⟨An, new.length, cn⟩, ⟨none, 0, 0⟩, ⟨none, 0, 0⟩⟩ : RecS) := ⟨owk.out, owo.out, own.out, OwnE.nil _ _ _, OwnE.nil _ _ _, (fun g e => by have := owkB.out g e; omega), (fun g e => by have := owoB.out g e; omega), (fun g e => by have := ownB.out g e; omega), (fun g e => by cases e), (fun g e => by cases e), (fun g e e2 => by have h1 := owkS.out g e; have h2 := owoS.out g e2; omega), (fun g e e2 => by have h1 := owkS.out g e; have h2 := ownS.out g e2; omega), (fun g e e2 => by have h1 := owoS.out g e; have h2 := ownS.out g e2; omega), ⟨by show key.length ≤ 1000000; omega, by show old.length ≤ 1000000; omega, by show new.length ≤ 1000000; omega, Nat.zero_le _, Nat.zero_le _⟩⟩
      have hRt := fright_any (⟨0, work, prev, next, 2, page, key, old, new, [], []⟩ : Rec) (⟨⟨Ak, key.length, ck⟩, ⟨Ao, old.length, co⟩, ⟨An, new.length, cn⟩, ⟨none, 0, 0⟩, ⟨none, 0, 0⟩⟩ : RecS) w19 hOwn.is
      have HO := Lib.hid hOwn
      unfold recC at hRt
      simp only at hRt
      clear hOwn y0 y1 y2 y3 y4 y5 y6 y7 y8 y9 y10 yf r0 r1 hn2
      cases hrr : rightR (⟨0, work, prev, next, 2, page, key, old, new, [], []⟩ : Rec) with
      | false =>
        rw [hrr] at hRt
        refine hRt.mono ?_
        rintro e wq ⟨rfl, tq⟩
        have TQ := Lib.hid (T19.out.and_ tq)
        have RBQ := Lib.hid (RB19.out.turned tq (fun e => e))
        have XQ := Lib.hid (X19.out.turned tq (fun e => e))
        have HOQ := Lib.hid (HO.out.fresh tq)
        clear x0 x1 x2 x3 x4 x5 x6 x7 x8 x9 x10 xf
        obtain ⟨y0, y1, y2, y3, y4, y5, y6, y7, y8, y9, y10⟩ := RecAt.of_blk (R := Rec.zero) (S := RecS.nil) RBQ.out
        simp only [Rec.zero, RecS.nil, Sl.nil] at y0 y1 y2 y3 y4 y5 y6 y7 y8 y9 y10
        have yf := RBQ.out.frozen
        obtain ⟨x0, x1, x2, x3, x4, x5, x6, x7, x8, x9, x10⟩ := RecAt.of_blk (R := (⟨0, work, prev, next, 2, page, key, old, new, [], []⟩ : Rec)) (S := (⟨⟨Ak, key.length, ck⟩, ⟨Ao, old.length, co⟩, ⟨An, new.length, cn⟩, ⟨none, 0, 0⟩, ⟨none, 0, 0⟩⟩ : RecS)) XQ.out
        simp only at x0 x1 x2 x3 x4 x5 x6 x7 x8 x9 x10
        have xf := XQ.out.frozen
        have hno := Lib.hid (show getR zs = none by rw [HG.out, hse]; exact fin_no hrr)
        clear hrr tq hRt
        go_wp2_with fail
        obtain ⟨wz, hwz, XZ, tZ⟩ := fin11 (.int .i64 0) (.int .i64 0) (.int .i64 0) (.int .i64 0) (.int .u8 0) (.int .i64 0) (.slice none 0 0) (.slice none 0 0) (.slice none 0 0) (.slice none 0 0) (.slice none 0 0) RBQ.out
        rw [hwz]
        clear hwz
        have TZ := TQ.out.trans (W := fun _ => False) tZ (fun _ e => e) (fun i e => .inr (by omega))
        obtain ⟨e0, e1, e2, e3, e4, e5, e6, e7, e8, e9, e10⟩ := XZ.cells11
        refine bodyPost_ret (v := .tuple #[.agg #[.int .i64 0, .int .i64 0, .int .i64 0, .int .i64 0, .int .u8 0, .int .i64 0, .slice none 0 0, .slice none 0 0, .slice none 0 0, .slice none 0 0, .slice none 0 0], .int .i64 0, .int .i64 4]) (by simp [results, Tryz.results21, go_sem, e0, e1, e2, e3, e4, e5, e6, e7, e8, e9, e10]) rfl ?_
        exact .inr ⟨hno.out, rfl, TZ⟩
      | true =>
        rw [hrr] at hRt
        refine hRt.mono ?_
        rintro e wq ⟨rfl, tq⟩
        have TQ := Lib.hid (T19.out.and_ tq)
        have RBQ := Lib.hid (RB19.out.turned tq (fun e => e))
        have XQ := Lib.hid (X19.out.turned tq (fun e => e))
        have HOQ := Lib.hid (HO.out.fresh tq)
        clear x0 x1 x2 x3 x4 x5 x6 x7 x8 x9 x10 xf
        obtain ⟨y0, y1, y2, y3, y4, y5, y6, y7, y8, y9, y10⟩ := RecAt.of_blk (R := Rec.zero) (S := RecS.nil) RBQ.out
        simp only [Rec.zero, RecS.nil, Sl.nil] at y0 y1 y2 y3 y4 y5 y6 y7 y8 y9 y10
        have yf := RBQ.out.frozen
        obtain ⟨x0, x1, x2, x3, x4, x5, x6, x7, x8, x9, x10⟩ := RecAt.of_blk (R := (⟨0, work, prev, next, 2, page, key, old, new, [], []⟩ : Rec)) (S := (⟨⟨Ak, key.length, ck⟩, ⟨Ao, old.length, co⟩, ⟨An, new.length, cn⟩, ⟨none, 0, 0⟩, ⟨none, 0, 0⟩⟩ : RecS)) XQ.out
        simp only at x0 x1 x2 x3 x4 x5 x6 x7 x8 x9 x10
        have xf := XQ.out.frozen
        have hys := Lib.hid (show getR zs = some ((⟨0, work, prev, next, 2, page, key, old, new, [], []⟩ : Rec), 2 + m) by rw [HG.out, hse]; exact fin_yes hrr)
        clear hrr HG tq hRt
        go_wp2_with fail
        obtain ⟨wz, hwz, XZ, tZ⟩ := fin11 (.int .i64 0) (.int .i64 work) (.int .i64 prev) (.int .i64 next) (.int .u8 2) (.int .i64 page) (.slice Ak key.length ck) (.slice Ao old.length co) (.slice An new.length cn) (.slice none 0 0) (.slice none 0 0) RBQ.out
        rw [hwz]
        clear hwz
        have TZ := TQ.out.trans (W := fun _ => False) tZ (fun _ e => e) (fun i e => .inr (by omega))
        obtain ⟨e0, e1, e2, e3, e4, e5, e6, e7, e8, e9, e10⟩ := XZ.cells11
        refine bodyPost_ret (v := .tuple #[.agg #[.int .i64 0, .int .i64 work, .int .i64 prev, .int .i64 next, .int .u8 2, .int .i64 page, .slice Ak key.length ck, .slice Ao old.length co, .slice An new.length cn, .slice none 0 0, .slice none 0 0], .int .i64 (2 + (m : Int)), .int .i64 0]) (by simp [results, Tryz.results21, go_sem, e0, e1, e2, e3, e4, e5, e6, e7, e8, e9, e10]) rfl ?_
        have HZ : RecOwn wz w.heap.size (⟨0, work, prev, next, 2, page, key, old, new, [], []⟩ : Rec) (⟨⟨Ak, key.length, ck⟩, ⟨Ao, old.length, co⟩, ⟨An, new.length, cn⟩, ⟨none, 0, 0⟩, ⟨none, 0, 0⟩⟩ : RecS) := HOQ.out.moved tZ (fun i e => by omega) RBQ.out (by decide) (by decide) (by decide)
        exact .inl ⟨_, 2 + m, (⟨⟨Ak, key.length, ck⟩, ⟨Ao, old.length, co⟩, ⟨An, new.length, cn⟩, ⟨none, 0, 0⟩, ⟨none, 0, 0⟩⟩ : RecS), hys.out, by rw [Int.natCast_add]; rfl, HZ, TZ⟩
set_option maxRecDepth 100000 in
set_option maxHeartbeats 2000000 in
theorem fget_6 (A : Option Addr) (n c : Nat) (zs : List Int) (w : World) (h : BytS w A n c zs) (hb : ∀ z ∈ zs, isByte z) (hnc : n ≤ c) (hc : c ≤ maxLen) (hn6 : n ≤ 1000000) (hk : kindOf zs = 6) : Calls Tryz.prog 21 #[.slice A n c] w (RGet zs w) := by
  have hbS : ∀ ys, (some zs : Option (List Int)) = some ys → ∀ y ∈ ys, isByte y := fun ys e y hy => by injection e with e; subst e; exact hb y hy
  obtain ⟨m, hm, hm2⟩ := numS2_nat (some zs) hbS
  have hG : getR zs = finR m (restS (kindOf zs) (numS 1 (inS m (numS 2 (some zs)).2)).2) := by
    unfold getR getS kindOf
    rw [hm, Int.toNat_natCast]
  have hkd : (numS 1 (inS m (numS 2 (some zs)).2)).1 = kindOf zs := by
    unfold kindOf
    rw [hm, Int.toNat_natCast]
  obtain ⟨kk, hkk, hk255⟩ := numS1_nat (inS m (numS 2 (some zs)).2) (inS_bytes (numS_bytes hbS))
  rw [hkd] at hkk
  rw [hk] at hG
  clear hkk hk255
  have hcm := hc
  unfold maxLen at hcm
  have hpl : 0 < n → PlF (w.heap.size + 1) (w.heap.size + 2) A := fun h0 => by
    obtain ⟨b, off, e, hcl⟩ := h.cell h0
    have := World.block_lt_of_cell? w ⟨b, off + 0, none⟩ (hcl 0 h0)
    exact .inr ⟨b, off, e, by simp at this; omega, by simp at this; omega⟩
  have hRB := (Blk.new w 29 #[.int .i64 0, .int .i64 0, .int .i64 0, .int .i64 0, .int .u8 0, .int .i64 0, .slice none 0 0, .slice none 0 0, .slice none 0 0, .slice none 0 0, .slice none 0 0]).alloc (.cells #[.slice A n c, .bool false] 118)
  have hRd : RdF ((w.alloc (.cells #[.int .i64 0, .int .i64 0, .int .i64 0, .int .i64 0, .int .u8 0, .int .i64 0, .slice none 0 0, .slice none 0 0, .slice none 0 0, .slice none 0 0, .slice none 0 0] 29)).alloc (.cells #[.slice A n c, .bool false] 118)) (w.heap.size + 1) A n c false := Blk.new_at _ _ _ (by simp)
  have hT := ((Turned.refl (fun _ => False) w).alloc (.cells #[.int .i64 0, .int .i64 0, .int .i64 0, .int .i64 0, .int .u8 0, .int .i64 0, .slice none 0 0, .slice none 0 0, .slice none 0 0, .slice none 0 0, .slice none 0 0] 29)).alloc (.cells #[.slice A n c, .bool false] 118)
  have hs0 : ((w.alloc (.cells #[.int .i64 0, .int .i64 0, .int .i64 0, .int .i64 0, .int .u8 0, .int .i64 0, .slice none 0 0, .slice none 0 0, .slice none 0 0, .slice none 0 0, .slice none 0 0] 29)).alloc (.cells #[.slice A n c, .bool false] 118)).heap.size = w.heap.size + 2 := by simp
  have hN1 : Calls Tryz.prog 61 #[.pointer (some ⟨w.heap.size + 1, 0, none⟩), .int .i64 (2 : Nat)] ((w.alloc (.cells #[.int .i64 0, .int .i64 0, .int .i64 0, .int .i64 0, .int .u8 0, .int .i64 0, .slice none 0 0, .slice none 0 0, .slice none 0 0, .slice none 0 0, .slice none 0 0] 29)).alloc (.cells #[.slice A n c, .bool false] 118)) (NmPost (w.heap.size + 1) (w.heap.size + 2) 2 (some zs) ((w.alloc (.cells #[.int .i64 0, .int .i64 0, .int .i64 0, .int .i64 0, .int .u8 0, .int .i64 0, .slice none 0 0, .slice none 0 0, .slice none 0 0, .slice none 0 0, .slice none 0 0] 29)).alloc (.cells #[.slice A n c, .bool false] 118))) := by
    rcases Nat.lt_or_ge n 2 with hlt | hge
    · exact fnum_by _ _ 2 (some zs) _ (ftake_short _ _ A n c 2 false _ hRd (by omega) (by omega) (by omega) (.inr hlt) (some zs) (takeS_short (by rw [h.len]; exact hlt))) (by omega) hbS
    · exact fnum_any _ _ 2 (some zs) _ ⟨by omega, A, n, c, hRd, h.turned hT (fun _ _ _ e => e), hnc, hc, hpl (by omega), hn6⟩ (by omega) (by omega) hbS
  unfold NmPost at hN1
  rw [hm] at hN1
  have hb1 := Lib.hid (numS_bytes (k := 2) hbS)
  have hN1' := Lib.hid hN1
  have RB0 := Lib.hid hRB
  have T0 := Lib.hid hT
  have HG := Lib.hid hG
  have HKD := Lib.hid hkd
  clear hN1 hRB hRd hT hG hkd hm hpl h hb hbS
  generalize (numS 2 (some zs)).2 = s1 at *
  go_enter Tryz.func21, Tryz.ntmps21
  go_wp2_with fail
  generalize ((w.alloc (.cells #[.int .i64 0, .int .i64 0, .int .i64 0, .int .i64 0, .int .u8 0, .int .i64 0, .slice none 0 0, .slice none 0 0, .slice none 0 0, .slice none 0 0, .slice none 0 0] 29)).alloc (.cells #[.slice A n c, .bool false] 118)) = w0 at *
  refine hN1'.out.mono ?_
  rintro e w1 ⟨rfl, hR1, t1⟩
  have R1 := Lib.hid hR1
  have hsz1 : w.heap.size + 2 ≤ w1.heap.size := by have := t1.size; omega
  have T1 := Lib.hid (T0.out.trans (W := fun _ => False) t1 (fun _ e => e) (fun i e => .inr (by omega)))
  have RB1 := Lib.hid (RB0.out.turned t1 (fun e => by omega))
  clear hR1 t1 T0 RB0 hN1'
  go_wp2_with fail
  refine (ftake_any (w.heap.size + 1) _ m s1 w1 R1.out (by omega)).mono ?_
  rintro e w2 ⟨A2, c2, rfl, hy2, hg2, hR2, t2⟩
  obtain ⟨B, hBB⟩ : ∃ B, B = w2.heap.size := ⟨_, rfl⟩
  have R3 := Lib.hid (isF_in hy2 (fun g e => by have := hg2 g e; omega) hR2 (Nat.le_of_eq hBB.symm) (by omega))
  obtain ⟨A3, n3, c3, sh3, hq3⟩ := rdF_blk hR2
  have q0 : w2.cell? ⟨w.heap.size + 1, 0, none⟩ = some (.slice A3 n3 c3) := hq3.cell 0
  have f0 := hq3.frozen 0
  have t3 := t2.setCell (p := ⟨w.heap.size + 1, 0, none⟩) (.inl rfl) (.slice A2 (takeS m s1).1.length c2)
  have hsz2 : w.heap.size + 2 ≤ w2.heap.size := by have := t2.size; omega
  have hsB : (w2.setCell ⟨w.heap.size + 1, 0, none⟩ (.slice A2 (takeS m s1).1.length c2)).heap.size = B := by rw [hBB]; simp [World.setCell]
  have T3 := Lib.hid (T1.out.trans (W := fun _ => False) t3 (fun _ e => e) (fun i e => .inr (by omega)))
  have RB3 := Lib.hid (RB1.out.turned t3 (fun e => by omega))
  have hB2 : w.heap.size + 2 ≤ B := by omega
  have hBB := Lib.hid hBB
  clear hy2 hg2 hR2 t2 t3 hq3 R1 T1 RB1 hBB
  go_wp2_with fail
  generalize w2.setCell ⟨w.heap.size + 1, 0, none⟩ (.slice A2 (takeS m s1).1.length c2) = w3 at *
  have hN3 := fnum_any (w.heap.size + 1) B 1 (inS m s1) w3 R3.out (by omega) (by omega) (inS_bytes hb1.out)
  unfold NmPost at hN3
  rw [HKD.out, hk] at hN3
  refine hN3.mono ?_
  rintro e w4 ⟨rfl, hR4, t4⟩
  have R4 := Lib.hid hR4
  have hB4 : B ≤ w4.heap.size := by have := t4.size; omega
  have T4 := Lib.hid (T3.out.trans (W := fun _ => False) t4 (fun _ e => e) (fun i e => .inr (by omega)))
  have RB4 := Lib.hid (RB3.out.turned t4 (fun e => by omega))
  have hb4 := Lib.hid (numS_bytes (k := 1) (inS_bytes hb1.out (k := m)))
  clear hR4 t4 T3 RB3 R3 q0 f0 hN3 hb1 hsB
  generalize (numS 1 (inS m s1)).2 = s4 at *
  clear HKD
  have hwr : w.heap.size < w.heap.size + 1 := by omega
  have HG := Lib.hid (show getR zs = finR m ((⟨0, (numS 8 s4).1, (numS 8 (numS 8 s4).2).1, (numS 2 (numS 2 (numS 8 (numS 8 s4).2).2).2).1, 6, (numS 2 (numS 8 (numS 8 s4).2).2).1, [], [], [], [], []⟩ : Rec), (numS 2 (numS 2 (numS 8 (numS 8 s4).2).2).2).2) from HG.out)
  generalize w.heap.size + 1 = r at *
  have H1 := Lib.hid (fun (w' : World) (h : IsF w' r B s4) (hB : B ≤ w'.heap.size) => fnum_any r B 8 s4 w' h hB (by omega) hb4.out)
  have hb5 := Lib.hid (numS_bytes (k := 8) hb4.out)
  unfold NmPost at H1
  generalize (numS 8 s4).1 = work at *
  generalize (numS 8 s4).2 = s5 at *
  clear hb4
  have H2 := Lib.hid (fun (w' : World) (h : IsF w' r B s5) (hB : B ≤ w'.heap.size) => fnum_any r B 8 s5 w' h hB (by omega) hb5.out)
  have hb6 := Lib.hid (numS_bytes (k := 8) hb5.out)
  unfold NmPost at H2
  generalize (numS 8 s5).1 = prev at *
  generalize (numS 8 s5).2 = s6 at *
  clear hb5
  have H3 := Lib.hid (fun (w' : World) (h : IsF w' r B s6) (hB : B ≤ w'.heap.size) => fnum_any r B 2 s6 w' h hB (by omega) hb6.out)
  have hb7 := Lib.hid (numS_bytes (k := 2) hb6.out)
  unfold NmPost at H3
  generalize (numS 2 s6).1 = page at *
  generalize (numS 2 s6).2 = s7 at *
  clear hb6
  have H4 := Lib.hid (fun (w' : World) (h : IsF w' r B s7) (hB : B ≤ w'.heap.size) => fnum_any r B 2 s7 w' h hB (by omega) hb7.out)
  have hb8 := Lib.hid (numS_bytes (k := 2) hb7.out)
  unfold NmPost at H4
  generalize (numS 2 s7).1 = next at *
  generalize (numS 2 s7).2 = s8 at *
  clear hb7
  have X5 := Lib.hid (Blk.new w4 29 (recC (⟨0, 0, 0, 0, 6, 0, [], [], [], [], []⟩ : Rec) (⟨⟨none, 0, 0⟩, ⟨none, 0, 0⟩, ⟨none, 0, 0⟩, ⟨none, 0, 0⟩, ⟨none, 0, 0⟩⟩ : RecS)))
  have t5 := (Turned.refl (fun _ => False) w4).alloc (.cells (recC (⟨0, 0, 0, 0, 6, 0, [], [], [], [], []⟩ : Rec) (⟨⟨none, 0, 0⟩, ⟨none, 0, 0⟩, ⟨none, 0, 0⟩, ⟨none, 0, 0⟩, ⟨none, 0, 0⟩⟩ : RecS)) 29)
  have hsz5 : w4.heap.size + 1 ≤ (w4.alloc (.cells (recC (⟨0, 0, 0, 0, 6, 0, [], [], [], [], []⟩ : Rec) (⟨⟨none, 0, 0⟩, ⟨none, 0, 0⟩, ⟨none, 0, 0⟩, ⟨none, 0, 0⟩, ⟨none, 0, 0⟩⟩ : RecS)) 29)).heap.size := by simp
  have R5 := Lib.hid (R4.out.fresh t5 (Nat.le_refl _))
  have hrB := R4.out.lt.2
  have T5 := Lib.hid (T4.out.and_ t5)
  have RB5 := Lib.hid (RB4.out.turned t5 (fun e => e))
  clear t5 R4 T4 RB4
  unfold recC at X5 hsz5 R5 T5 RB5
  simp only at X5 hsz5 R5 T5 RB5
  go_wp2_with fail
  generalize w4.alloc (.cells #[.int .i64 0, .int .i64 0, .int .i64 0, .int .i64 0, .int .u8 6, .int .i64 0, .slice none 0 0, .slice none 0 0, .slice none 0 0, .slice none 0 0, .slice none 0 0] 29) = w5 at *
  generalize w4.heap.size = xb at *
  have hne1 : ¬ (r = xb) := by omega
  have hne2 : ¬ (xb = r) := by omega
  have hne3 : ¬ (w.heap.size = xb) := by omega
  have hne4 : ¬ (xb = w.heap.size) := by omega
  have hne5 : ¬ (w.heap.size = r) := by omega
  have hne6 : ¬ (r = w.heap.size) := by omega
  have RB5 : Hid (Blk w5 w.heap.size 29 (recC Rec.zero RecS.nil)) := RB5
  obtain ⟨x0, x1, x2, x3, x4, x5, x6, x7, x8, x9, x10⟩ := RecAt.of_blk (R := (⟨0, 0, 0, 0, 6, 0, [], [], [], [], []⟩ : Rec)) (S := (⟨⟨none, 0, 0⟩, ⟨none, 0, 0⟩, ⟨none, 0, 0⟩, ⟨none, 0, 0⟩, ⟨none, 0, 0⟩⟩ : RecS)) X5.out
  simp only at x0 x1 x2 x3 x4 x5 x6 x7 x8 x9 x10
  have xf := X5.out.frozen
  refine (H1.out _ R5.out (by omega)).mono ?_
  rintro e w6 ⟨rfl, hR, t⟩
  have R6 := Lib.hid hR
  have T6 := Lib.hid (T5.out.trans (W := fun _ => False) t (fun _ e => e) (fun i e => .inr (by omega)))
  have RB6 := Lib.hid (RB5.out.turned t (fun e => by omega))
  have X6 := Lib.hid (X5.out.turned t (fun e => by omega))
  have hsz6 := Nat.le_trans hsz5 t.size
  have hmo6 := t.size
  clear hR t R5 T5 RB5 X5
  clear x0 x1 x2 x3 x4 x5 x6 x7 x8 x9 x10 xf
  obtain ⟨x0, x1, x2, x3, x4, x5, x6, x7, x8, x9, x10⟩ := RecAt.of_blk (R := (⟨0, 0, 0, 0, 6, 0, [], [], [], [], []⟩ : Rec)) (S := (⟨⟨none, 0, 0⟩, ⟨none, 0, 0⟩, ⟨none, 0, 0⟩, ⟨none, 0, 0⟩, ⟨none, 0, 0⟩⟩ : RecS)) X6.out
  simp only at x0 x1 x2 x3 x4 x5 x6 x7 x8 x9 x10
  have xf := X6.out.frozen
  go_wp2_with fail
  have tS := (Turned.refl (fun i => i = xb) w6).setCell (p := ⟨xb, 1, none⟩) (.inl rfl) (.int .i64 work)
  have X7 : Hid (Blk (w6.setCell ⟨xb, 1, none⟩ (.int .i64 work)) xb 29 (recC (⟨0, work, 0, 0, 6, 0, [], [], [], [], []⟩ : Rec) (⟨⟨none, 0, 0⟩, ⟨none, 0, 0⟩, ⟨none, 0, 0⟩, ⟨none, 0, 0⟩, ⟨none, 0, 0⟩⟩ : RecS))) := Lib.hid (X6.out.set_ 1 (.int .i64 work))
  have R7 := Lib.hid (R6.out.keep tS (fun i e => by omega) (Nat.le_refl _))
  have T7 := Lib.hid (T6.out.trans (W := fun _ => False) tS (fun _ e => e) (fun i e => .inr (by omega)))
  have RB7 := Lib.hid (RB6.out.turned tS (fun e => by omega))
  have hsz7 := Nat.le_trans hsz6 tS.size
  have hmo7 := tS.size
  clear tS X6 R6 T6 RB6
  generalize (w6.setCell ⟨xb, 1, none⟩ (.int .i64 work)) = w7 at *
  refine (H2.out _ R7.out (by omega)).mono ?_
  rintro e w8 ⟨rfl, hR, t⟩
  have R8 := Lib.hid hR
  have T8 := Lib.hid (T7.out.trans (W := fun _ => False) t (fun _ e => e) (fun i e => .inr (by omega)))
  have RB8 := Lib.hid (RB7.out.turned t (fun e => by omega))
  have X8 := Lib.hid (X7.out.turned t (fun e => by omega))
  have hsz8 := Nat.le_trans hsz7 t.size
  have hmo8 := t.size
  clear hR t R7 T7 RB7 X7
  clear x0 x1 x2 x3 x4 x5 x6 x7 x8 x9 x10 xf
  obtain ⟨x0, x1, x2, x3, x4, x5, x6, x7, x8, x9, x10⟩ := RecAt.of_blk (R := (⟨0, work, 0, 0, 6, 0, [], [], [], [], []⟩ : Rec)) (S := (⟨⟨none, 0, 0⟩, ⟨none, 0, 0⟩, ⟨none, 0, 0⟩, ⟨none, 0, 0⟩, ⟨none, 0, 0⟩⟩ : RecS)) X8.out
  simp only at x0 x1 x2 x3 x4 x5 x6 x7 x8 x9 x10
  have xf := X8.out.frozen
  go_wp2_with fail
  have tS := (Turned.refl (fun i => i = xb) w8).setCell (p := ⟨xb, 2, none⟩) (.inl rfl) (.int .i64 prev)
  have X9 : Hid (Blk (w8.setCell ⟨xb, 2, none⟩ (.int .i64 prev)) xb 29 (recC (⟨0, work, prev, 0, 6, 0, [], [], [], [], []⟩ : Rec) (⟨⟨none, 0, 0⟩, ⟨none, 0, 0⟩, ⟨none, 0, 0⟩, ⟨none, 0, 0⟩, ⟨none, 0, 0⟩⟩ : RecS))) := Lib.hid (X8.out.set_ 2 (.int .i64 prev))
  have R9 := Lib.hid (R8.out.keep tS (fun i e => by omega) (Nat.le_refl _))
  have T9 := Lib.hid (T8.out.trans (W := fun _ => False) tS (fun _ e => e) (fun i e => .inr (by omega)))
  have RB9 := Lib.hid (RB8.out.turned tS (fun e => by omega))
  have hsz9 := Nat.le_trans hsz8 tS.size
  have hmo9 := tS.size
  clear tS X8 R8 T8 RB8
  generalize (w8.setCell ⟨xb, 2, none⟩ (.int .i64 prev)) = w9 at *
  refine (H3.out _ R9.out (by omega)).mono ?_
  rintro e w10 ⟨rfl, hR, t⟩
  have R10 := Lib.hid hR
  have T10 := Lib.hid (T9.out.trans (W := fun _ => False) t (fun _ e => e) (fun i e => .inr (by omega)))
  have RB10 := Lib.hid (RB9.out.turned t (fun e => by omega))
  have X10 := Lib.hid (X9.out.turned t (fun e => by omega))
  have hsz10 := Nat.le_trans hsz9 t.size
  have hmo10 := t.size
  clear hR t R9 T9 RB9 X9
  clear x0 x1 x2 x3 x4 x5 x6 x7 x8 x9 x10 xf
  obtain ⟨x0, x1, x2, x3, x4, x5, x6, x7, x8, x9, x10⟩ := RecAt.of_blk (R := (⟨0, work, prev, 0, 6, 0, [], [], [], [], []⟩ : Rec)) (S := (⟨⟨none, 0, 0⟩, ⟨none, 0, 0⟩, ⟨none, 0, 0⟩, ⟨none, 0, 0⟩, ⟨none, 0, 0⟩⟩ : RecS)) X10.out
  simp only at x0 x1 x2 x3 x4 x5 x6 x7 x8 x9 x10
  have xf := X10.out.frozen
  go_wp2_with fail
  have tS := (Turned.refl (fun i => i = xb) w10).setCell (p := ⟨xb, 5, none⟩) (.inl rfl) (.int .i64 page)
  have X11 : Hid (Blk (w10.setCell ⟨xb, 5, none⟩ (.int .i64 page)) xb 29 (recC (⟨0, work, prev, 0, 6, page, [], [], [], [], []⟩ : Rec) (⟨⟨none, 0, 0⟩, ⟨none, 0, 0⟩, ⟨none, 0, 0⟩, ⟨none, 0, 0⟩, ⟨none, 0, 0⟩⟩ : RecS))) := Lib.hid (X10.out.set_ 5 (.int .i64 page))
  have R11 := Lib.hid (R10.out.keep tS (fun i e => by omega) (Nat.le_refl _))
  have T11 := Lib.hid (T10.out.trans (W := fun _ => False) tS (fun _ e => e) (fun i e => .inr (by omega)))
  have RB11 := Lib.hid (RB10.out.turned tS (fun e => by omega))
  have hsz11 := Nat.le_trans hsz10 tS.size
  have hmo11 := tS.size
  clear tS X10 R10 T10 RB10
  generalize (w10.setCell ⟨xb, 5, none⟩ (.int .i64 page)) = w11 at *
  refine (H4.out _ R11.out (by omega)).mono ?_
  rintro e w12 ⟨rfl, hR, t⟩
  have R12 := Lib.hid hR
  have T12 := Lib.hid (T11.out.trans (W := fun _ => False) t (fun _ e => e) (fun i e => .inr (by omega)))
  have RB12 := Lib.hid (RB11.out.turned t (fun e => by omega))
  have X12 := Lib.hid (X11.out.turned t (fun e => by omega))
  have hsz12 := Nat.le_trans hsz11 t.size
  have hmo12 := t.size
  clear hR t R11 T11 RB11 X11
  clear x0 x1 x2 x3 x4 x5 x6 x7 x8 x9 x10 xf
  obtain ⟨x0, x1, x2, x3, x4, x5, x6, x7, x8, x9, x10⟩ := RecAt.of_blk (R := (⟨0, work, prev, 0, 6, page, [], [], [], [], []⟩ : Rec)) (S := (⟨⟨none, 0, 0⟩, ⟨none, 0, 0⟩, ⟨none, 0, 0⟩, ⟨none, 0, 0⟩, ⟨none, 0, 0⟩⟩ : RecS)) X12.out
  simp only at x0 x1 x2 x3 x4 x5 x6 x7 x8 x9 x10
  have xf := X12.out.frozen
  cases hse : s8 with
  | none =>
    rw [hse] at R12
    obtain ⟨Ar, nr, cr, r0, r1⟩ := rdF_end R12.out
    obtain ⟨y0, y1, y2, y3, y4, y5, y6, y7, y8, y9, y10⟩ := RecAt.of_blk (R := Rec.zero) (S := RecS.nil) RB12.out
    simp only [Rec.zero, RecS.nil, Sl.nil] at y0 y1 y2 y3 y4 y5 y6 y7 y8 y9 y10
    have yf := RB12.out.frozen
    have hno := Lib.hid (show getR zs = none by rw [HG.out, hse]; exact fin_none _ _)
    go_wp2_with fail
    have tS := (Turned.refl (fun i => i = xb) w12).setCell (p := ⟨xb, 3, none⟩) (.inl rfl) (.int .i64 next)
    have TS := Lib.hid (T12.out.trans (W := fun _ => False) tS (fun _ e => e) (fun i e => .inr (by omega)))
    have RBS := Lib.hid (RB12.out.turned tS (fun e => by omega))
    generalize (w12.setCell ⟨xb, 3, none⟩ (.int .i64 next)) = ws at *
    obtain ⟨wz, hwz, XZ, tZ⟩ := fin11 (.int .i64 0) (.int .i64 0) (.int .i64 0) (.int .i64 0) (.int .u8 0) (.int .i64 0) (.slice none 0 0) (.slice none 0 0) (.slice none 0 0) (.slice none 0 0) (.slice none 0 0) RBS.out
    rw [hwz]
    clear hwz
    have TZ := TS.out.trans (W := fun _ => False) tZ (fun _ e => e) (fun i e => .inr (by omega))
    obtain ⟨e0, e1, e2, e3, e4, e5, e6, e7, e8, e9, e10⟩ := XZ.cells11
    refine bodyPost_ret (v := .tuple #[.agg #[.int .i64 0, .int .i64 0, .int .i64 0, .int .i64 0, .int .u8 0, .int .i64 0, .slice none 0 0, .slice none 0 0, .slice none 0 0, .slice none 0 0, .slice none 0 0], .int .i64 0, .int .i64 4]) (by simp [results, Tryz.results21, go_sem, e0, e1, e2, e3, e4, e5, e6, e7, e8, e9, e10]) rfl ?_
    exact .inr ⟨hno.out, rfl, TZ⟩
  | some ys =>
    cases ys with
    | cons y ys =>
      rw [hse] at R12
      obtain ⟨Ar, nr, cr, r0, r1, hn1, hn2⟩ := rdF_some R12.out
      have hn3 : (0 : Int) < (nr : Int) := by rw [hn1, List.length_cons]; omega
      have hn4 : 0 < nr := by omega
      clear hn1
      obtain ⟨y0, y1, y2, y3, y4, y5, y6, y7, y8, y9, y10⟩ := RecAt.of_blk (R := Rec.zero) (S := RecS.nil) RB12.out
      simp only [Rec.zero, RecS.nil, Sl.nil] at y0 y1 y2 y3 y4 y5 y6 y7 y8 y9 y10
      have yf := RB12.out.frozen
      have hno := Lib.hid (show getR zs = none by rw [HG.out, hse]; exact fin_more _ _ _ _)
      go_wp2_with fail
      have tS := (Turned.refl (fun i => i = xb) w12).setCell (p := ⟨xb, 3, none⟩) (.inl rfl) (.int .i64 next)
      have TS := Lib.hid (T12.out.trans (W := fun _ => False) tS (fun _ e => e) (fun i e => .inr (by omega)))
      have RBS := Lib.hid (RB12.out.turned tS (fun e => by omega))
      generalize (w12.setCell ⟨xb, 3, none⟩ (.int .i64 next)) = ws at *
      obtain ⟨wz, hwz, XZ, tZ⟩ := fin11 (.int .i64 0) (.int .i64 0) (.int .i64 0) (.int .i64 0) (.int .u8 0) (.int .i64 0) (.slice none 0 0) (.slice none 0 0) (.slice none 0 0) (.slice none 0 0) (.slice none 0 0) RBS.out
      rw [hwz]
      clear hwz
      have TZ := TS.out.trans (W := fun _ => False) tZ (fun _ e => e) (fun i e => .inr (by omega))
      obtain ⟨e0, e1, e2, e3, e4, e5, e6, e7, e8, e9, e10⟩ := XZ.cells11
      refine bodyPost_ret (v := .tuple #[.agg #[.int .i64 0, .int .i64 0, .int .i64 0, .int .i64 0, .int .u8 0, .int .i64 0, .slice none 0 0, .slice none 0 0, .slice none 0 0, .slice none 0 0, .slice none 0 0], .int .i64 0, .int .i64 4]) (by simp [results, Tryz.results21, go_sem, e0, e1, e2, e3, e4, e5, e6, e7, e8, e9, e10]) rfl ?_
      exact .inr ⟨hno.out, rfl, TZ⟩
    | nil =>
      rw [hse] at R12
      obtain ⟨Ar, nr, cr, r0, r1, hn1, hn2⟩ := rdF_some R12.out
      obtain rfl : nr = 0 := hn1
      obtain ⟨y0, y1, y2, y3, y4, y5, y6, y7, y8, y9, y10⟩ := RecAt.of_blk (R := Rec.zero) (S := RecS.nil) RB12.out
      simp only [Rec.zero, RecS.nil, Sl.nil] at y0 y1 y2 y3 y4 y5 y6 y7 y8 y9 y10
      have yf := RB12.out.frozen
      go_wp2_with fail
      have tS := (Turned.refl (fun i => i = xb) w12).setCell (p := ⟨xb, 3, none⟩) (.inl rfl) (.int .i64 next)
      have T13 := Lib.hid (T12.out.trans (W := fun _ => False) tS (fun _ e => e) (fun i e => .inr (by omega)))
      have RB13 := Lib.hid (RB12.out.turned tS (fun e => by omega))
      have X13 : Hid (Blk (w12.setCell ⟨xb, 3, none⟩ (.int .i64 next)) xb 29 (recC (⟨0, work, prev, next, 6, page, [], [], [], [], []⟩ : Rec) (⟨⟨none, 0, 0⟩, ⟨none, 0, 0⟩, ⟨none, 0, 0⟩, ⟨none, 0, 0⟩, ⟨none, 0, 0⟩⟩ : RecS))) := Lib.hid (X12.out.set_ 3 (.int .i64 next))
      generalize (w12.setCell ⟨xb, 3, none⟩ (.int .i64 next)) = w13 at *
      clear tS X12 T12 RB12
      have hOwn : RecOwn w13 w.heap.size (⟨0, work, prev, next, 6, page, [], [], [], [], []⟩ : Rec) (⟨⟨none, 0, 0⟩, ⟨none, 0, 0⟩, ⟨none, 0, 0⟩, ⟨none, 0, 0⟩, ⟨none, 0, 0⟩⟩ : RecS) := ⟨OwnV.nil _, OwnV.nil _, OwnV.nil _, OwnE.nil _ _ _, OwnE.nil _ _ _, (fun g e => by cases e), (fun g e => by cases e), (fun g e => by cases e), (fun g e => by cases e), (fun g e => by cases e), (fun g e => by cases e), (fun g e => by cases e), (fun g e => by cases e), ⟨Nat.zero_le _, Nat.zero_le _, Nat.zero_le _, Nat.zero_le _, Nat.zero_le _⟩⟩
      have hRt := fright_any (⟨0, work, prev, next, 6, page, [], [], [], [], []⟩ : Rec) (⟨⟨none, 0, 0⟩, ⟨none, 0, 0⟩, ⟨none, 0, 0⟩, ⟨none, 0, 0⟩, ⟨none, 0, 0⟩⟩ : RecS) w13 hOwn.is
      have HO := Lib.hid hOwn
      unfold recC at hRt
      simp only at hRt
      clear hOwn y0 y1 y2 y3 y4 y5 y6 y7 y8 y9 y10 yf r0 r1 hn2
      cases hrr : rightR (⟨0, work, prev, next, 6, page, [], [], [], [], []⟩ : Rec) with
      | false =>
        rw [hrr] at hRt
        refine hRt.mono ?_
        rintro e wq ⟨rfl, tq⟩
        have TQ := Lib.hid (T13.out.and_ tq)
        have RBQ := Lib.hid (RB13.out.turned tq (fun e => e))
        have XQ := Lib.hid (X13.out.turned tq (fun e => e))
        have HOQ := Lib.hid (HO.out.fresh tq)
        clear x0 x1 x2 x3 x4 x5 x6 x7 x8 x9 x10 xf
        obtain ⟨y0, y1, y2, y3, y4, y5, y6, y7, y8, y9, y10⟩ := RecAt.of_blk (R := Rec.zero) (S := RecS.nil) RBQ.out
        simp only [Rec.zero, RecS.nil, Sl.nil] at y0 y1 y2 y3 y4 y5 y6 y7 y8 y9 y10
        have yf := RBQ.out.frozen
        obtain ⟨x0, x1, x2, x3, x4, x5, x6, x7, x8, x9, x10⟩ := RecAt.of_blk (R := (⟨0, work, prev, next, 6, page, [], [], [], [], []⟩ : Rec)) (S := (⟨⟨none, 0, 0⟩, ⟨none, 0, 0⟩, ⟨none, 0, 0⟩, ⟨none, 0, 0⟩, ⟨none, 0, 0⟩⟩ : RecS)) XQ.out
        simp only at x0 x1 x2 x3 x4 x5 x6 x7 x8 x9 x10
        have xf := XQ.out.frozen
        have hno := Lib.hid (show getR zs = none by rw [HG.out, hse]; exact fin_no hrr)
        clear hrr tq hRt
        go_wp2_with fail
        obtain ⟨wz, hwz, XZ, tZ⟩ := fin11 (.int .i64 0) (.int .i64 0) (.int .i64 0) (.int .i64 0) (.int .u8 0) (.int .i64 0) (.slice none 0 0) (.slice none 0 0) (.slice none 0 0) (.slice none 0 0) (.slice none 0 0) RBQ.out
        rw [hwz]
        clear hwz
        have TZ := TQ.out.trans (W := fun _ => False) tZ (fun _ e => e) (fun i e => .inr (by omega))
        obtain ⟨e0, e1, e2, e3, e4, e5, e6, e7, e8, e9, e10⟩ := XZ.cells11
        refine bodyPost_ret (v := .tuple #[.agg #[.int .i64 0, .int .i64 0, .int .i64 0, .int .i64 0, .int .u8 0, .int .i64 0, .slice none 0 0, .slice none 0 0, .slice none 0 0, .slice none 0 0, .slice none 0 0], .int .i64 0, .int .i64 4]) (by simp [results, Tryz.results21, go_sem, e0, e1, e2, e3, e4, e5, e6, e7, e8, e9, e10]) rfl ?_
        exact .inr ⟨hno.out, rfl, TZ⟩
      | true =>
        rw [hrr] at hRt
        refine hRt.mono ?_
        rintro e wq ⟨rfl, tq⟩
        have TQ := Lib.hid (T13.out.and_ tq)
        have RBQ := Lib.hid (RB13.out.turned tq (fun e => e))
        have XQ := Lib.hid (X13.out.turned tq (fun e => e))
        have HOQ := Lib.hid (HO.out.fresh tq)
        clear x0 x1 x2 x3 x4 x5 x6 x7 x8 x9 x10 xf
        obtain ⟨y0, y1, y2, y3, y4, y5, y6, y7, y8, y9, y10⟩ := RecAt.of_blk (R := Rec.zero) (S := RecS.nil) RBQ.out
        simp only [Rec.zero, RecS.nil, Sl.nil] at y0 y1 y2 y3 y4 y5 y6 y7 y8 y9 y10
        have yf := RBQ.out.frozen
        obtain ⟨x0, x1, x2, x3, x4, x5, x6, x7, x8, x9, x10⟩ := RecAt.of_blk (R := (⟨0, work, prev, next, 6, page, [], [], [], [], []⟩ : Rec)) (S := (⟨⟨none, 0, 0⟩, ⟨none, 0, 0⟩, ⟨none, 0, 0⟩, ⟨none, 0, 0⟩, ⟨none, 0, 0⟩⟩ : RecS)) XQ.out
        simp only at x0 x1 x2 x3 x4 x5 x6 x7 x8 x9 x10
        have xf := XQ.out.frozen
        have hys := Lib.hid (show getR zs = some ((⟨0, work, prev, next, 6, page, [], [], [], [], []⟩ : Rec), 2 + m) by rw [HG.out, hse]; exact fin_yes hrr)
        clear hrr HG tq hRt
        go_wp2_with fail
        obtain ⟨wz, hwz, XZ, tZ⟩ := fin11 (.int .i64 0) (.int .i64 work) (.int .i64 prev) (.int .i64 next) (.int .u8 6) (.int .i64 page) (.slice none 0 0) (.slice none 0 0) (.slice none 0 0) (.slice none 0 0) (.slice none 0 0) RBQ.out
        rw [hwz]
        clear hwz
        have TZ := TQ.out.trans (W := fun _ => False) tZ (fun _ e => e) (fun i e => .inr (by omega))
        obtain ⟨e0, e1, e2, e3, e4, e5, e6, e7, e8, e9, e10⟩ := XZ.cells11
        refine bodyPost_ret (v := .tuple #[.agg #[.int .i64 0, .int .i64 work, .int .i64 prev, .int .i64 next, .int .u8 6, .int .i64 page, .slice none 0 0, .slice none 0 0, .slice none 0 0, .slice none 0 0, .slice none 0 0], .int .i64 (2 + (m : Int)), .int .i64 0]) (by simp [results, Tryz.results21, go_sem, e0, e1, e2, e3, e4, e5, e6, e7, e8, e9, e10]) rfl ?_
        have HZ : RecOwn wz w.heap.size (⟨0, work, prev, next, 6, page, [], [], [], [], []⟩ : Rec) (⟨⟨none, 0, 0⟩, ⟨none, 0, 0⟩, ⟨none, 0, 0⟩, ⟨none, 0, 0⟩, ⟨none, 0, 0⟩⟩ : RecS) := HOQ.out.moved tZ (fun i e => by omega) RBQ.out (by decide) (by decide) (by decide)
        exact .inl ⟨_, 2 + m, (⟨⟨none, 0, 0⟩, ⟨none, 0, 0⟩, ⟨none, 0, 0⟩, ⟨none, 0, 0⟩, ⟨none, 0, 0⟩⟩ : RecS), hys.out, by rw [Int.natCast_add]; rfl, HZ, TZ⟩
set_option maxRecDepth 100000 in
set_option maxHeartbeats 2000000 in
theorem fget_rest (A : Option Addr) (n c : Nat) (zs : List Int) (w : World) (h : BytS w A n c zs) (hb : ∀ z ∈ zs, isByte z) (hnc : n ≤ c) (hc : c ≤ maxLen) (hn6 : n ≤ 1000000) (h1 : kindOf zs ≠ 1) (h2 : kindOf zs ≠ 2) (h3 : kindOf zs ≠ 3) (h4 : kindOf zs ≠ 4) (h5 : kindOf zs ≠ 5) (h6 : kindOf zs ≠ 6) : Calls Tryz.prog 21 #[.slice A n c] w (RGet zs w) := by
  have hbS : ∀ ys, (some zs : Option (List Int)) = some ys → ∀ y ∈ ys, isByte y := fun ys e y hy => by injection e with e; subst e; exact hb y hy
  obtain ⟨m, hm, hm2⟩ := numS2_nat (some zs) hbS
  have hG : getR zs = finR m (restS (kindOf zs) (numS 1 (inS m (numS 2 (some zs)).2)).2) := by
    unfold getR getS kindOf
    rw [hm, Int.toNat_natCast]
  have hkd : (numS 1 (inS m (numS 2 (some zs)).2)).1 = kindOf zs := by
    unfold kindOf
    rw [hm, Int.toNat_natCast]
  obtain ⟨kk, hkk, hk255⟩ := numS1_nat (inS m (numS 2 (some zs)).2) (inS_bytes (numS_bytes hbS))
  rw [hkd] at hkk
  rw [hkk] at hG h1 h2 h3 h4 h5 h6
  have hki : (kk : Int) ≤ 255 := by omega
  have k1 : ((kk : Int) == 1) = false := by simpa using h1
  have k2 : ((kk : Int) == 2) = false := by simpa using h2
  have k3 : ((kk : Int) == 3) = false := by simpa using h3
  have k4 : ((kk : Int) == 4) = false := by simpa using h4
  have k5 : ((kk : Int) == 5) = false := by simpa using h5
  have k6 : ((kk : Int) == 6) = false := by simpa using h6
  have j1 : ((kk : Int) != 1) = true := by simpa using h1
  have j2 : ((kk : Int) != 2) = true := by simpa using h2
  have j3 : ((kk : Int) != 3) = true := by simpa using h3
  have j4 : ((kk : Int) != 4) = true := by simpa using h4
  have j5 : ((kk : Int) != 5) = true := by simpa using h5
  have j6 : ((kk : Int) != 6) = true := by simpa using h6
  have HRX := Lib.hid (fun (R : Rec) (h : R.kind = (kk : Int)) => show rightR R = false from by
    unfold rightR kindB
    rw [h, if_neg h5, if_neg h1, if_neg h2, if_neg (by omega), if_neg h6]
    simp)
  have HN := Lib.hid (show getR zs = none by
    rw [hG]
    unfold restS onS
    rw [if_neg h5, if_neg h1, if_neg h2, if_neg h6]
    unfold finR
    simp only
    split
    · rw [HRX.out _ rfl]; rfl
    · rfl)
  clear h1 h2 h3 h4 h5 h6
  have hcm := hc
  unfold maxLen at hcm
  have hpl : 0 < n → PlF (w.heap.size + 1) (w.heap.size + 2) A := fun h0 => by
    obtain ⟨b, off, e, hcl⟩ := h.cell h0
    have := World.block_lt_of_cell? w ⟨b, off + 0, none⟩ (hcl 0 h0)
    exact .inr ⟨b, off, e, by simp at this; omega, by simp at this; omega⟩
  have hRB := (Blk.new w 29 #[.int .i64 0, .int .i64 0, .int .i64 0, .int .i64 0, .int .u8 0, .int .i64 0, .slice none 0 0, .slice none 0 0, .slice none 0 0, .slice none 0 0, .slice none 0 0]).alloc (.cells #[.slice A n c, .bool false] 118)
  have hRd : RdF ((w.alloc (.cells #[.int .i64 0, .int .i64 0, .int .i64 0, .int .i64 0, .int .u8 0, .int .i64 0, .slice none 0 0, .slice none 0 0, .slice none 0 0, .slice none 0 0, .slice none 0 0] 29)).alloc (.cells #[.slice A n c, .bool false] 118)) (w.heap.size + 1) A n c false := Blk.new_at _ _ _ (by simp)
  have hT := ((Turned.refl (fun _ => False) w).alloc (.cells #[.int .i64 0, .int .i64 0, .int .i64 0, .int .i64 0, .int .u8 0, .int .i64 0, .slice none 0 0, .slice none 0 0, .slice none 0 0, .slice none 0 0, .slice none 0 0] 29)).alloc (.cells #[.slice A n c, .bool false] 118)
  have hs0 : ((w.alloc (.cells #[.int .i64 0, .int .i64 0, .int .i64 0, .int .i64 0, .int .u8 0, .int .i64 0, .slice none 0 0, .slice none 0 0, .slice none 0 0, .slice none 0 0, .slice none 0 0] 29)).alloc (.cells #[.slice A n c, .bool false] 118)).heap.size = w.heap.size + 2 := by simp
  have hN1 : Calls Tryz.prog 61 #[.pointer (some ⟨w.heap.size + 1, 0, none⟩), .int .i64 (2 : Nat)] ((w.alloc (.cells #[.int .i64 0, .int .i64 0, .int .i64 0, .int .i64 0, .int .u8 0, .int .i64 0, .slice none 0 0, .slice none 0 0, .slice none 0 0, .slice none 0 0, .slice none 0 0] 29)).alloc (.cells #[.slice A n c, .bool false] 118)) (NmPost (w.heap.size + 1) (w.heap.size + 2) 2 (some zs) ((w.alloc (.cells #[.int .i64 0, .int .i64 0, .int .i64 0, .int .i64 0, .int .u8 0, .int .i64 0, .slice none 0 0, .slice none 0 0, .slice none 0 0, .slice none 0 0, .slice none 0 0] 29)).alloc (.cells #[.slice A n c, .bool false] 118))) := by
    rcases Nat.lt_or_ge n 2 with hlt | hge
    · exact fnum_by _ _ 2 (some zs) _ (ftake_short _ _ A n c 2 false _ hRd (by omega) (by omega) (by omega) (.inr hlt) (some zs) (takeS_short (by rw [h.len]; exact hlt))) (by omega) hbS
    · exact fnum_any _ _ 2 (some zs) _ ⟨by omega, A, n, c, hRd, h.turned hT (fun _ _ _ e => e), hnc, hc, hpl (by omega), hn6⟩ (by omega) (by omega) hbS
  unfold NmPost at hN1
  rw [hm] at hN1
  have hb1 := Lib.hid (numS_bytes (k := 2) hbS)
  have hN1' := Lib.hid hN1
  have RB0 := Lib.hid hRB
  have T0 := Lib.hid hT
  have HG := Lib.hid hG
  have HKD := Lib.hid hkd
  clear hN1 hRB hRd hT hG hkd hm hpl h hb hbS
  generalize (numS 2 (some zs)).2 = s1 at *
  go_enter Tryz.func21, Tryz.ntmps21
  go_wp2_with fail
  generalize ((w.alloc (.cells #[.int .i64 0, .int .i64 0, .int .i64 0, .int .i64 0, .int .u8 0, .int .i64 0, .slice none 0 0, .slice none 0 0, .slice none 0 0, .slice none 0 0, .slice none 0 0] 29)).alloc (.cells #[.slice A n c, .bool false] 118)) = w0 at *
  refine hN1'.out.mono ?_
  rintro e w1 ⟨rfl, hR1, t1⟩
  have R1 := Lib.hid hR1
  have hsz1 : w.heap.size + 2 ≤ w1.heap.size := by have := t1.size; omega
  have T1 := Lib.hid (T0.out.trans (W := fun _ => False) t1 (fun _ e => e) (fun i e => .inr (by omega)))
  have RB1 := Lib.hid (RB0.out.turned t1 (fun e => by omega))
  clear hR1 t1 T0 RB0 hN1'
  go_wp2_with fail
  refine (ftake_any (w.heap.size + 1) _ m s1 w1 R1.out (by omega)).mono ?_
  rintro e w2 ⟨A2, c2, rfl, hy2, hg2, hR2, t2⟩
  obtain ⟨B, hBB⟩ : ∃ B, B = w2.heap.size := ⟨_, rfl⟩
  have R3 := Lib.hid (isF_in hy2 (fun g e => by have := hg2 g e; omega) hR2 (Nat.le_of_eq hBB.symm) (by omega))
  obtain ⟨A3, n3, c3, sh3, hq3⟩ := rdF_blk hR2
  have q0 : w2.cell? ⟨w.heap.size + 1, 0, none⟩ = some (.slice A3 n3 c3) := hq3.cell 0
  have f0 := hq3.frozen 0
  have t3 := t2.setCell (p := ⟨w.heap.size + 1, 0, none⟩) (.inl rfl) (.slice A2 (takeS m s1).1.length c2)
  have hsz2 : w.heap.size + 2 ≤ w2.heap.size := by have := t2.size; omega
  have hsB : (w2.setCell ⟨w.heap.size + 1, 0, none⟩ (.slice A2 (takeS m s1).1.length c2)).heap.size = B := by rw [hBB]; simp [World.setCell]
  have T3 := Lib.hid (T1.out.trans (W := fun _ => False) t3 (fun _ e => e) (fun i e => .inr (by omega)))
  have RB3 := Lib.hid (RB1.out.turned t3 (fun e => by omega))
  have hB2 : w.heap.size + 2 ≤ B := by omega
  have hBB := Lib.hid hBB
  clear hy2 hg2 hR2 t2 t3 hq3 R1 T1 RB1 hBB
  go_wp2_with fail
  generalize w2.setCell ⟨w.heap.size + 1, 0, none⟩ (.slice A2 (takeS m s1).1.length c2) = w3 at *
  have hN3 := fnum_any (w.heap.size + 1) B 1 (inS m s1) w3 R3.out (by omega) (by omega) (inS_bytes hb1.out)
  unfold NmPost at hN3
  rw [HKD.out, hkk] at hN3
  refine hN3.mono ?_
  rintro e w4 ⟨rfl, hR4, t4⟩
  have R4 := Lib.hid hR4
  have hB4 : B ≤ w4.heap.size := by have := t4.size; omega
  have T4 := Lib.hid (T3.out.trans (W := fun _ => False) t4 (fun _ e => e) (fun i e => .inr (by omega)))
  have RB4 := Lib.hid (RB3.out.turned t4 (fun e => by omega))
  have hb4 := Lib.hid (numS_bytes (k := 1) (inS_bytes hb1.out (k := m)))
  clear hR4 t4 T3 RB3 R3 q0 f0 hN3 hb1 hsB
  generalize (numS 1 (inS m s1)).2 = s4 at *
  clear HKD
  have hwr : w.heap.size < w.heap.size + 1 := by omega
  clear HG
  generalize w.heap.size + 1 = r at *
  have H1 := Lib.hid (fun (w' : World) (h : IsF w' r B s4) (hB : B ≤ w'.heap.size) => fnum_any r B 8 s4 w' h hB (by omega) hb4.out)
  have hb5 := Lib.hid (numS_bytes (k := 8) hb4.out)
  unfold NmPost at H1
  generalize (numS 8 s4).1 = work at *
  generalize (numS 8 s4).2 = s5 at *
  clear hb4
  have H2 := Lib.hid (fun (w' : World) (h : IsF w' r B s5) (hB : B ≤ w'.heap.size) => fnum_any r B 8 s5 w' h hB (by omega) hb5.out)
  have hb6 := Lib.hid (numS_bytes (k := 8) hb5.out)
  unfold NmPost at H2
  generalize (numS 8 s5).1 = prev at *
  generalize (numS 8 s5).2 = s6 at *
  clear hb5
  have H3 := Lib.hid (fun (w' : World) (h : IsF w' r B s6) (hB : B ≤ w'.heap.size) => fnum_any r B 2 s6 w' h hB (by omega) hb6.out)
  have hb7 := Lib.hid (numS_bytes (k := 2) hb6.out)
  unfold NmPost at H3
  generalize (numS 2 s6).1 = page at *
  generalize (numS 2 s6).2 = s7 at *
  clear hb6
  have X5 := Lib.hid (Blk.new w4 29 (recC (⟨0, 0, 0, 0, (kk : Int), 0, [], [], [], [], []⟩ : Rec) (⟨⟨none, 0, 0⟩, ⟨none, 0, 0⟩, ⟨none, 0, 0⟩, ⟨none, 0, 0⟩, ⟨none, 0, 0⟩⟩ : RecS)))
  have t5 := (Turned.refl (fun _ => False) w4).alloc (.cells (recC (⟨0, 0, 0, 0, (kk : Int), 0, [], [], [], [], []⟩ : Rec) (⟨⟨none, 0, 0⟩, ⟨none, 0, 0⟩, ⟨none, 0, 0⟩, ⟨none, 0, 0⟩, ⟨none, 0, 0⟩⟩ : RecS)) 29)
  have hsz5 : w4.heap.size + 1 ≤ (w4.alloc (.cells (recC (⟨0, 0, 0, 0, (kk : Int), 0, [], [], [], [], []⟩ : Rec) (⟨⟨none, 0, 0⟩, ⟨none, 0, 0⟩, ⟨none, 0, 0⟩, ⟨none, 0, 0⟩, ⟨none, 0, 0⟩⟩ : RecS)) 29)).heap.size := by simp
  have R5 := Lib.hid (R4.out.fresh t5 (Nat.le_refl _))
  have hrB := R4.out.lt.2
  have T5 := Lib.hid (T4.out.and_ t5)
  have RB5 := Lib.hid (RB4.out.turned t5 (fun e => e))
  clear t5 R4 T4 RB4
  unfold recC at X5 hsz5 R5 T5 RB5
  simp only at X5 hsz5 R5 T5 RB5
  go_wp2_with fail
  generalize w4.alloc (.cells #[.int .i64 0, .int .i64 0, .int .i64 0, .int .i64 0, .int .u8 (kk : Int), .int .i64 0, .slice none 0 0, .slice none 0 0, .slice none 0 0, .slice none 0 0, .slice none 0 0] 29) = w5 at *
  generalize w4.heap.size = xb at *
  have hne1 : ¬ (r = xb) := by omega
  have hne2 : ¬ (xb = r) := by omega
  have hne3 : ¬ (w.heap.size = xb) := by omega
  have hne4 : ¬ (xb = w.heap.size) := by omega
  have hne5 : ¬ (w.heap.size = r) := by omega
  have hne6 : ¬ (r = w.heap.size) := by omega
  have RB5 : Hid (Blk w5 w.heap.size 29 (recC Rec.zero RecS.nil)) := RB5
  obtain ⟨x0, x1, x2, x3, x4, x5, x6, x7, x8, x9, x10⟩ := RecAt.of_blk (R := (⟨0, 0, 0, 0, (kk : Int), 0, [], [], [], [], []⟩ : Rec)) (S := (⟨⟨none, 0, 0⟩, ⟨none, 0, 0⟩, ⟨none, 0, 0⟩, ⟨none, 0, 0⟩, ⟨none, 0, 0⟩⟩ : RecS)) X5.out
  simp only at x0 x1 x2 x3 x4 x5 x6 x7 x8 x9 x10
  have xf := X5.out.frozen
  refine (H1.out _ R5.out (by omega)).mono ?_
  rintro e w6 ⟨rfl, hR, t⟩
  have R6 := Lib.hid hR
  have T6 := Lib.hid (T5.out.trans (W := fun _ => False) t (fun _ e => e) (fun i e => .inr (by omega)))
  have RB6 := Lib.hid (RB5.out.turned t (fun e => by omega))
  have X6 := Lib.hid (X5.out.turned t (fun e => by omega))
  have hsz6 := Nat.le_trans hsz5 t.size
  have hmo6 := t.size
  clear hR t R5 T5 RB5 X5
  clear x0 x1 x2 x3 x4 x5 x6 x7 x8 x9 x10 xf
  obtain ⟨x0, x1, x2, x3, x4, x5, x6, x7, x8, x9, x10⟩ := RecAt.of_blk (R := (⟨0, 0, 0, 0, (kk : Int), 0, [], [], [], [], []⟩ : Rec)) (S := (⟨⟨none, 0, 0⟩, ⟨none, 0, 0⟩, ⟨none, 0, 0⟩, ⟨none, 0, 0⟩, ⟨none, 0, 0⟩⟩ : RecS)) X6.out
  simp only at x0 x1 x2 x3 x4 x5 x6 x7 x8 x9 x10
  have xf := X6.out.frozen
  go_wp2_with fail
  have tS := (Turned.refl (fun i => i = xb) w6).setCell (p := ⟨xb, 1, none⟩) (.inl rfl) (.int .i64 work)
  have X7 : Hid (Blk (w6.setCell ⟨xb, 1, none⟩ (.int .i64 work)) xb 29 (recC (⟨0, work, 0, 0, (kk : Int), 0, [], [], [], [], []⟩ : Rec) (⟨⟨none, 0, 0⟩, ⟨none, 0, 0⟩, ⟨none, 0, 0⟩, ⟨none, 0, 0⟩, ⟨none, 0, 0⟩⟩ : RecS))) := Lib.hid (X6.out.set_ 1 (.int .i64 work))
  have R7 := Lib.hid (R6.out.keep tS (fun i e => by omega) (Nat.le_refl _))
  have T7 := Lib.hid (T6.out.trans (W := fun _ => False) tS (fun _ e => e) (fun i e => .inr (by omega)))
  have RB7 := Lib.hid (RB6.out.turned tS (fun e => by omega))
  have hsz7 := Nat.le_trans hsz6 tS.size
  have hmo7 := tS.size
  clear tS X6 R6 T6 RB6
  generalize (w6.setCell ⟨xb, 1, none⟩ (.int .i64 work)) = w7 at *
  refine (H2.out _ R7.out (by omega)).mono ?_
  rintro e w8 ⟨rfl, hR, t⟩
  have R8 := Lib.hid hR
  have T8 := Lib.hid (T7.out.trans (W := fun _ => False) t (fun _ e => e) (fun i e => .inr (by omega)))
  have RB8 := Lib.hid (RB7.out.turned t (fun e => by omega))
  have X8 := Lib.hid (X7.out.turned t (fun e => by omega))
  have hsz8 := Nat.le_trans hsz7 t.size
  have hmo8 := t.size
  clear hR t R7 T7 RB7 X7
  clear x0 x1 x2 x3 x4 x5 x6 x7 x8 x9 x10 xf
  obtain ⟨x0, x1, x2, x3, x4, x5, x6, x7, x8, x9, x10⟩ := RecAt.of_blk (R := (⟨0, work, 0, 0, (kk : Int), 0, [], [], [], [], []⟩ : Rec)) (S := (⟨⟨none, 0, 0⟩, ⟨none, 0, 0⟩, ⟨none, 0, 0⟩, ⟨none, 0, 0⟩, ⟨none, 0, 0⟩⟩ : RecS)) X8.out
  simp only at x0 x1 x2 x3 x4 x5 x6 x7 x8 x9 x10
  have xf := X8.out.frozen
  go_wp2_with fail
  have tS := (Turned.refl (fun i => i = xb) w8).setCell (p := ⟨xb, 2, none⟩) (.inl rfl) (.int .i64 prev)
  have X9 : Hid (Blk (w8.setCell ⟨xb, 2, none⟩ (.int .i64 prev)) xb 29 (recC (⟨0, work, prev, 0, (kk : Int), 0, [], [], [], [], []⟩ : Rec) (⟨⟨none, 0, 0⟩, ⟨none, 0, 0⟩, ⟨none, 0, 0⟩, ⟨none, 0, 0⟩, ⟨none, 0, 0⟩⟩ : RecS))) := Lib.hid (X8.out.set_ 2 (.int .i64 prev))
  have R9 := Lib.hid (R8.out.keep tS (fun i e => by omega) (Nat.le_refl _))
  have T9 := Lib.hid (T8.out.trans (W := fun _ => False) tS (fun _ e => e) (fun i e => .inr (by omega)))
  have RB9 := Lib.hid (RB8.out.turned tS (fun e => by omega))
  have hsz9 := Nat.le_trans hsz8 tS.size
  have hmo9 := tS.size
  clear tS X8 R8 T8 RB8
  generalize (w8.setCell ⟨xb, 2, none⟩ (.int .i64 prev)) = w9 at *
  refine (H3.out _ R9.out (by omega)).mono ?_
  rintro e w10 ⟨rfl, hR, t⟩
  have R10 := Lib.hid hR
  have T10 := Lib.hid (T9.out.trans (W := fun _ => False) t (fun _ e => e) (fun i e => .inr (by omega)))
  have RB10 := Lib.hid (RB9.out.turned t (fun e => by omega))
  have X10 := Lib.hid (X9.out.turned t (fun e => by omega))
  have hsz10 := Nat.le_trans hsz9 t.size
  have hmo10 := t.size
  clear hR t R9 T9 RB9 X9
  clear x0 x1 x2 x3 x4 x5 x6 x7 x8 x9 x10 xf
  obtain ⟨x0, x1, x2, x3, x4, x5, x6, x7, x8, x9, x10⟩ := RecAt.of_blk (R := (⟨0, work, prev, 0, (kk : Int), 0, [], [], [], [], []⟩ : Rec)) (S := (⟨⟨none, 0, 0⟩, ⟨none, 0, 0⟩, ⟨none, 0, 0⟩, ⟨none, 0, 0⟩, ⟨none, 0, 0⟩⟩ : RecS)) X10.out
  simp only at x0 x1 x2 x3 x4 x5 x6 x7 x8 x9 x10
  have xf := X10.out.frozen
  cases hse : s7 with
  | none =>
    rw [hse] at R10
    obtain ⟨Ar, nr, cr, r0, r1⟩ := rdF_end R10.out
    obtain ⟨y0, y1, y2, y3, y4, y5, y6, y7, y8, y9, y10⟩ := RecAt.of_blk (R := Rec.zero) (S := RecS.nil) RB10.out
    simp only [Rec.zero, RecS.nil, Sl.nil] at y0 y1 y2 y3 y4 y5 y6 y7 y8 y9 y10
    have yf := RB10.out.frozen
    have hno := Lib.hid (show getR zs = none from HN.out)
    go_wp2_with fail
    have tS := (Turned.refl (fun i => i = xb) w10).setCell (p := ⟨xb, 5, none⟩) (.inl rfl) (.int .i64 page)
    have TS := Lib.hid (T10.out.trans (W := fun _ => False) tS (fun _ e => e) (fun i e => .inr (by omega)))
    have RBS := Lib.hid (RB10.out.turned tS (fun e => by omega))
    generalize (w10.setCell ⟨xb, 5, none⟩ (.int .i64 page)) = ws at *
    obtain ⟨wz, hwz, XZ, tZ⟩ := fin11 (.int .i64 0) (.int .i64 0) (.int .i64 0) (.int .i64 0) (.int .u8 0) (.int .i64 0) (.slice none 0 0) (.slice none 0 0) (.slice none 0 0) (.slice none 0 0) (.slice none 0 0) RBS.out
    rw [hwz]
    clear hwz
    have TZ := TS.out.trans (W := fun _ => False) tZ (fun _ e => e) (fun i e => .inr (by omega))
    obtain ⟨e0, e1, e2, e3, e4, e5, e6, e7, e8, e9, e10⟩ := XZ.cells11
    refine bodyPost_ret (v := .tuple #[.agg #[.int .i64 0, .int .i64 0, .int .i64 0, .int .i64 0, .int .u8 0, .int .i64 0, .slice none 0 0, .slice none 0 0, .slice none 0 0, .slice none 0 0, .slice none 0 0], .int .i64 0, .int .i64 4]) (by simp [results, Tryz.results21, go_sem, e0, e1, e2, e3, e4, e5, e6, e7, e8, e9, e10]) rfl ?_
    exact .inr ⟨hno.out, rfl, TZ⟩
  | some ys =>
    cases ys with
    | cons y ys =>
      rw [hse] at R10
      obtain ⟨Ar, nr, cr, r0, r1, hn1, hn2⟩ := rdF_some R10.out
      have hn3 : (0 : Int) < (nr : Int) := by rw [hn1, List.length_cons]; omega
      have hn4 : 0 < nr := by omega
      clear hn1
      obtain ⟨y0, y1, y2, y3, y4, y5, y6, y7, y8, y9, y10⟩ := RecAt.of_blk (R := Rec.zero) (S := RecS.nil) RB10.out
      simp only [Rec.zero, RecS.nil, Sl.nil] at y0 y1 y2 y3 y4 y5 y6 y7 y8 y9 y10
      have yf := RB10.out.frozen
      have hno := Lib.hid (show getR zs = none from HN.out)
      go_wp2_with fail
      have tS := (Turned.refl (fun i => i = xb) w10).setCell (p := ⟨xb, 5, none⟩) (.inl rfl) (.int .i64 page)
      have TS := Lib.hid (T10.out.trans (W := fun _ => False) tS (fun _ e => e) (fun i e => .inr (by omega)))
      have RBS := Lib.hid (RB10.out.turned tS (fun e => by omega))
      generalize (w10.setCell ⟨xb, 5, none⟩ (.int .i64 page)) = ws at *
      obtain ⟨wz, hwz, XZ, tZ⟩ := fin11 (.int .i64 0) (.int .i64 0) (.int .i64 0) (.int .i64 0) (.int .u8 0) (.int .i64 0) (.slice none 0 0) (.slice none 0 0) (.slice none 0 0) (.slice none 0 0) (.slice none 0 0) RBS.out
      rw [hwz]
      clear hwz
      have TZ := TS.out.trans (W := fun _ => False) tZ (fun _ e => e) (fun i e => .inr (by omega))
      obtain ⟨e0, e1, e2, e3, e4, e5, e6, e7, e8, e9, e10⟩ := XZ.cells11
      refine bodyPost_ret (v := .tuple #[.agg #[.int .i64 0, .int .i64 0, .int .i64 0, .int .i64 0, .int .u8 0, .int .i64 0, .slice none 0 0, .slice none 0 0, .slice none 0 0, .slice none 0 0, .slice none 0 0], .int .i64 0, .int .i64 4]) (by simp [results, Tryz.results21, go_sem, e0, e1, e2, e3, e4, e5, e6, e7, e8, e9, e10]) rfl ?_
      exact .inr ⟨hno.out, rfl, TZ⟩
    | nil =>
      rw [hse] at R10
      obtain ⟨Ar, nr, cr, r0, r1, hn1, hn2⟩ := rdF_some R10.out
      obtain rfl : nr = 0 := hn1
      obtain ⟨y0, y1, y2, y3, y4, y5, y6, y7, y8, y9, y10⟩ := RecAt.of_blk (R := Rec.zero) (S := RecS.nil) RB10.out
      simp only [Rec.zero, RecS.nil, Sl.nil] at y0 y1 y2 y3 y4 y5 y6 y7 y8 y9 y10
      have yf := RB10.out.frozen
      go_wp2_with fail
      have tS := (Turned.refl (fun i => i = xb) w10).setCell (p := ⟨xb, 5, none⟩) (.inl rfl) (.int .i64 page)
      have T11 := Lib.hid (T10.out.trans (W := fun _ => False) tS (fun _ e => e) (fun i e => .inr (by omega)))
      have RB11 := Lib.hid (RB10.out.turned tS (fun e => by omega))
      have X11 : Hid (Blk (w10.setCell ⟨xb, 5, none⟩ (.int .i64 page)) xb 29 (recC (⟨0, work, prev, 0, (kk : Int), page, [], [], [], [], []⟩ : Rec) (⟨⟨none, 0, 0⟩, ⟨none, 0, 0⟩, ⟨none, 0, 0⟩, ⟨none, 0, 0⟩, ⟨none, 0, 0⟩⟩ : RecS))) := Lib.hid (X10.out.set_ 5 (.int .i64 page))
      generalize (w10.setCell ⟨xb, 5, none⟩ (.int .i64 page)) = w11 at *
      clear tS X10 T10 RB10
      have HRR := Lib.hid (HRX.out (⟨0, work, prev, 0, (kk : Int), page, [], [], [], [], []⟩ : Rec) rfl)
      clear HRX
      have hOwn : RecOwn w11 w.heap.size (⟨0, work, prev, 0, (kk : Int), page, [], [], [], [], []⟩ : Rec) (⟨⟨none, 0, 0⟩, ⟨none, 0, 0⟩, ⟨none, 0, 0⟩, ⟨none, 0, 0⟩, ⟨none, 0, 0⟩⟩ : RecS) := ⟨OwnV.nil _, OwnV.nil _, OwnV.nil _, OwnE.nil _ _ _, OwnE.nil _ _ _, (fun g e => by cases e), (fun g e => by cases e), (fun g e => by cases e), (fun g e => by cases e), (fun g e => by cases e), (fun g e => by cases e), (fun g e => by cases e), (fun g e => by cases e), ⟨Nat.zero_le _, Nat.zero_le _, Nat.zero_le _, Nat.zero_le _, Nat.zero_le _⟩⟩
      have hRt := fright_any (⟨0, work, prev, 0, (kk : Int), page, [], [], [], [], []⟩ : Rec) (⟨⟨none, 0, 0⟩, ⟨none, 0, 0⟩, ⟨none, 0, 0⟩, ⟨none, 0, 0⟩, ⟨none, 0, 0⟩⟩ : RecS) w11 hOwn.is
      have HO := Lib.hid hOwn
      unfold recC at hRt
      simp only at hRt
      clear hOwn y0 y1 y2 y3 y4 y5 y6 y7 y8 y9 y10 yf r0 r1 hn2
      rw [HRR.out] at hRt
      refine hRt.mono ?_
      rintro e wq ⟨rfl, tq⟩
      have TQ := Lib.hid (T11.out.and_ tq)
      have RBQ := Lib.hid (RB11.out.turned tq (fun e => e))
      have XQ := Lib.hid (X11.out.turned tq (fun e => e))
      have HOQ := Lib.hid (HO.out.fresh tq)
      clear x0 x1 x2 x3 x4 x5 x6 x7 x8 x9 x10 xf
      obtain ⟨y0, y1, y2, y3, y4, y5, y6, y7, y8, y9, y10⟩ := RecAt.of_blk (R := Rec.zero) (S := RecS.nil) RBQ.out
      simp only [Rec.zero, RecS.nil, Sl.nil] at y0 y1 y2 y3 y4 y5 y6 y7 y8 y9 y10
      have yf := RBQ.out.frozen
      obtain ⟨x0, x1, x2, x3, x4, x5, x6, x7, x8, x9, x10⟩ := RecAt.of_blk (R := (⟨0, work, prev, 0, (kk : Int), page, [], [], [], [], []⟩ : Rec)) (S := (⟨⟨none, 0, 0⟩, ⟨none, 0, 0⟩, ⟨none, 0, 0⟩, ⟨none, 0, 0⟩, ⟨none, 0, 0⟩⟩ : RecS)) XQ.out
      simp only at x0 x1 x2 x3 x4 x5 x6 x7 x8 x9 x10
      have xf := XQ.out.frozen
      have hno := Lib.hid (show getR zs = none from HN.out)
      clear tq hRt
      go_wp2_with fail
      obtain ⟨wz, hwz, XZ, tZ⟩ := fin11 (.int .i64 0) (.int .i64 0) (.int .i64 0) (.int .i64 0) (.int .u8 0) (.int .i64 0) (.slice none 0 0) (.slice none 0 0) (.slice none 0 0) (.slice none 0 0) (.slice none 0 0) RBQ.out
      rw [hwz]
      clear hwz
      have TZ := TQ.out.trans (W := fun _ => False) tZ (fun _ e => e) (fun i e => .inr (by omega))
      obtain ⟨e0, e1, e2, e3, e4, e5, e6, e7, e8, e9, e10⟩ := XZ.cells11
      refine bodyPost_ret (v := .tuple #[.agg #[.int .i64 0, .int .i64 0, .int .i64 0, .int .i64 0, .int .u8 0, .int .i64 0, .slice none 0 0, .slice none 0 0, .slice none 0 0, .slice none 0 0, .slice none 0 0], .int .i64 0, .int .i64 4]) (by simp [results, Tryz.results21, go_sem, e0, e1, e2, e3, e4, e5, e6, e7, e8, e9, e10]) rfl ?_
      exact .inr ⟨hno.out, rfl, TZ⟩
set_option maxRecDepth 100000 in
set_option maxHeartbeats 2000000 in
theorem fget_5 (A : Option Addr) (n c : Nat) (zs : List Int) (w : World) (h : BytS w A n c zs) (hb : ∀ z ∈ zs, isByte z) (hnc : n ≤ c) (hc : c ≤ maxLen) (hn6 : n ≤ 1000000) (hk : kindOf zs = 5) : Calls Tryz.prog 21 #[.slice A n c] w (RGet zs w) := by
  have hbS : ∀ ys, (some zs : Option (List Int)) = some ys → ∀ y ∈ ys, isByte y := fun ys e y hy => by injection e with e; subst e; exact hb y hy
  obtain ⟨m, hm, hm2⟩ := numS2_nat (some zs) hbS
  have hG : getR zs = finR m (restS (kindOf zs) (numS 1 (inS m (numS 2 (some zs)).2)).2) := by
    unfold getR getS kindOf
    rw [hm, Int.toNat_natCast]
  have hkd : (numS 1 (inS m (numS 2 (some zs)).2)).1 = kindOf zs := by
    unfold kindOf
    rw [hm, Int.toNat_natCast]
  obtain ⟨kk, hkk, hk255⟩ := numS1_nat (inS m (numS 2 (some zs)).2) (inS_bytes (numS_bytes hbS))
  rw [hkd] at hkk
  rw [hk] at hG
  clear hkk hk255
  have hcm := hc
  unfold maxLen at hcm
  have hpl : 0 < n → PlF (w.heap.size + 1) (w.heap.size + 2) A := fun h0 => by
    obtain ⟨b, off, e, hcl⟩ := h.cell h0
    have := World.block_lt_of_cell? w ⟨b, off + 0, none⟩ (hcl 0 h0)
    exact .inr ⟨b, off, e, by simp at this; omega, by simp at this; omega⟩
  have hRB := (Blk.new w 29 #[.int .i64 0, .int .i64 0, .int .i64 0, .int .i64 0, .int .u8 0, .int .i64 0, .slice none 0 0, .slice none 0 0, .slice none 0 0, .slice none 0 0, .slice none 0 0]).alloc (.cells #[.slice A n c, .bool false] 118)
  have hRd : RdF ((w.alloc (.cells #[.int .i64 0, .int .i64 0, .int .i64 0, .int .i64 0, .int .u8 0, .int .i64 0, .slice none 0 0, .slice none 0 0, .slice none 0 0, .slice none 0 0, .slice none 0 0] 29)).alloc (.cells #[.slice A n c, .bool false] 118)) (w.heap.size + 1) A n c false := Blk.new_at _ _ _ (by simp)
  have hT := ((Turned.refl (fun _ => False) w).alloc (.cells #[.int .i64 0, .int .i64 0, .int .i64 0, .int .i64 0, .int .u8 0, .int .i64 0, .slice none 0 0, .slice none 0 0, .slice none 0 0, .slice none 0 0, .slice none 0 0] 29)).alloc (.cells #[.slice A n c, .bool false] 118)
  have hs0 : ((w.alloc (.cells #[.int .i64 0, .int .i64 0, .int .i64 0, .int .i64 0, .int .u8 0, .int .i64 0, .slice none 0 0, .slice none 0 0, .slice none 0 0, .slice none 0 0, .slice none 0 0] 29)).alloc (.cells #[.slice A n c, .bool false] 118)).heap.size = w.heap.size + 2 := by simp
  have hN1 : Calls Tryz.prog 61 #[.pointer (some ⟨w.heap.size + 1, 0, none⟩), .int .i64 (2 : Nat)] ((w.alloc (.cells #[.int .i64 0, .int .i64 0, .int .i64 0, .int .i64 0, .int .u8 0, .int .i64 0, .slice none 0 0, .slice none 0 0, .slice none 0 0, .slice none 0 0, .slice none 0 0] 29)).alloc (.cells #[.slice A n c, .bool false] 118)) (NmPost (w.heap.size + 1) (w.heap.size + 2) 2 (some zs) ((w.alloc (.cells #[.int .i64 0, .int .i64 0, .int .i64 0, .int .i64 0, .int .u8 0, .int .i64 0, .slice none 0 0, .slice none 0 0, .slice none 0 0, .slice none 0 0, .slice none 0 0] 29)).alloc (.cells #[.slice A n c, .bool false] 118))) := by
    rcases Nat.lt_or_ge n 2 with hlt | hge
    · exact fnum_by _ _ 2 (some zs) _ (ftake_short _ _ A n c 2 false _ hRd (by omega) (by omega) (by omega) (.inr hlt) (some zs) (takeS_short (by rw [h.len]; exact hlt))) (by omega) hbS
    · exact fnum_any _ _ 2 (some zs) _ ⟨by omega, A, n, c, hRd, h.turned hT (fun _ _ _ e => e), hnc, hc, hpl (by omega), hn6⟩ (by omega) (by omega) hbS
  unfold NmPost at hN1
  rw [hm] at hN1
  have hb1 := Lib.hid (numS_bytes (k := 2) hbS)
  have hN1' := Lib.hid hN1
  have RB0 := Lib.hid hRB
  have T0 := Lib.hid hT
  have HG := Lib.hid hG
  have HKD := Lib.hid hkd
  clear hN1 hRB hRd hT hG hkd hm hpl h hb hbS
  generalize (numS 2 (some zs)).2 = s1 at *
  go_enter Tryz.func21, Tryz.ntmps21
  go_wp2_with fail
  generalize ((w.alloc (.cells #[.int .i64 0, .int .i64 0, .int .i64 0, .int .i64 0, .int .u8 0, .int .i64 0, .slice none 0 0, .slice none 0 0, .slice none 0 0, .slice none 0 0, .slice none 0 0] 29)).alloc (.cells #[.slice A n c, .bool false] 118)) = w0 at *
  refine hN1'.out.mono ?_
  rintro e w1 ⟨rfl, hR1, t1⟩
  have R1 := Lib.hid hR1
  have hsz1 : w.heap.size + 2 ≤ w1.heap.size := by have := t1.size; omega
  have T1 := Lib.hid (T0.out.trans (W := fun _ => False) t1 (fun _ e => e) (fun i e => .inr (by omega)))
  have RB1 := Lib.hid (RB0.out.turned t1 (fun e => by omega))
  clear hR1 t1 T0 RB0 hN1'
  go_wp2_with fail
  refine (ftake_any (w.heap.size + 1) _ m s1 w1 R1.out (by omega)).mono ?_
  rintro e w2 ⟨A2, c2, rfl, hy2, hg2, hR2, t2⟩
  obtain ⟨B, hBB⟩ : ∃ B, B = w2.heap.size := ⟨_, rfl⟩
  have R3 := Lib.hid (isF_in hy2 (fun g e => by have := hg2 g e; omega) hR2 (Nat.le_of_eq hBB.symm) (by omega))
  obtain ⟨A3, n3, c3, sh3, hq3⟩ := rdF_blk hR2
  have q0 : w2.cell? ⟨w.heap.size + 1, 0, none⟩ = some (.slice A3 n3 c3) := hq3.cell 0
  have f0 := hq3.frozen 0
  have t3 := t2.setCell (p := ⟨w.heap.size + 1, 0, none⟩) (.inl rfl) (.slice A2 (takeS m s1).1.length c2)
  have hsz2 : w.heap.size + 2 ≤ w2.heap.size := by have := t2.size; omega
  have hsB : (w2.setCell ⟨w.heap.size + 1, 0, none⟩ (.slice A2 (takeS m s1).1.length c2)).heap.size = B := by rw [hBB]; simp [World.setCell]
  have T3 := Lib.hid (T1.out.trans (W := fun _ => False) t3 (fun _ e => e) (fun i e => .inr (by omega)))
  have RB3 := Lib.hid (RB1.out.turned t3 (fun e => by omega))
  have hB2 : w.heap.size + 2 ≤ B := by omega
  have hBB := Lib.hid hBB
  clear hy2 hg2 hR2 t2 t3 hq3 R1 T1 RB1 hBB
  go_wp2_with fail
  generalize w2.setCell ⟨w.heap.size + 1, 0, none⟩ (.slice A2 (takeS m s1).1.length c2) = w3 at *
  have hN3 := fnum_any (w.heap.size + 1) B 1 (inS m s1) w3 R3.out (by omega) (by omega) (inS_bytes hb1.out)
  unfold NmPost at hN3
  rw [HKD.out, hk] at hN3
  refine hN3.mono ?_
  rintro e w4 ⟨rfl, hR4, t4⟩
  have R4 := Lib.hid hR4
  have hB4 : B ≤ w4.heap.size := by have := t4.size; omega
  have T4 := Lib.hid (T3.out.trans (W := fun _ => False) t4 (fun _ e => e) (fun i e => .inr (by omega)))
  have RB4 := Lib.hid (RB3.out.turned t4 (fun e => by omega))
  have hb4 := Lib.hid (numS_bytes (k := 1) (inS_bytes hb1.out (k := m)))
  clear hR4 t4 T3 RB3 R3 q0 f0 hN3 hb1 hsB
  generalize (numS 1 (inS m s1)).2 = s4 at *
  clear HKD
  have hwr : w.heap.size < w.heap.size + 1 := by omega
  have HG := Lib.hid (show getR zs = finR m ((⟨0, 0, 0, 0, 5, 0, [], [], [], (listN 2 s4).1, (listN 8 (listN 2 s4).2).1⟩ : Rec), (listN 8 (listN 2 s4).2).2) from HG.out)
  generalize w.heap.size + 1 = r at *
  have X5 := Lib.hid (Blk.new w4 29 (recC (⟨0, 0, 0, 0, 5, 0, [], [], [], [], []⟩ : Rec) (⟨⟨none, 0, 0⟩, ⟨none, 0, 0⟩, ⟨none, 0, 0⟩, ⟨none, 0, 0⟩, ⟨none, 0, 0⟩⟩ : RecS)))
  have t5 := (Turned.refl (fun _ => False) w4).alloc (.cells (recC (⟨0, 0, 0, 0, 5, 0, [], [], [], [], []⟩ : Rec) (⟨⟨none, 0, 0⟩, ⟨none, 0, 0⟩, ⟨none, 0, 0⟩, ⟨none, 0, 0⟩, ⟨none, 0, 0⟩⟩ : RecS)) 29)
  have hsz5 : w4.heap.size + 1 ≤ (w4.alloc (.cells (recC (⟨0, 0, 0, 0, 5, 0, [], [], [], [], []⟩ : Rec) (⟨⟨none, 0, 0⟩, ⟨none, 0, 0⟩, ⟨none, 0, 0⟩, ⟨none, 0, 0⟩, ⟨none, 0, 0⟩⟩ : RecS)) 29)).heap.size := by simp
  have R5 := Lib.hid (R4.out.fresh t5 (Nat.le_refl _))
  have hrB := R4.out.lt.2
  have T5 := Lib.hid (T4.out.and_ t5)
  have RB5 := Lib.hid (RB4.out.turned t5 (fun e => e))
  clear t5 R4 T4 RB4
  unfold recC at X5 hsz5 R5 T5 RB5
  simp only at X5 hsz5 R5 T5 RB5
  go_wp2_with fail
  generalize w4.alloc (.cells #[.int .i64 0, .int .i64 0, .int .i64 0, .int .i64 0, .int .u8 5, .int .i64 0, .slice none 0 0, .slice none 0 0, .slice none 0 0, .slice none 0 0, .slice none 0 0] 29) = w5 at *
  generalize w4.heap.size = xb at *
  have hne1 : ¬ (r = xb) := by omega
  have hne2 : ¬ (xb = r) := by omega
  have hne3 : ¬ (w.heap.size = xb) := by omega
  have hne4 : ¬ (xb = w.heap.size) := by omega
  have hne5 : ¬ (w.heap.size = r) := by omega
  have hne6 : ¬ (r = w.heap.size) := by omega
  have RB5 : Hid (Blk w5 w.heap.size 29 (recC Rec.zero RecS.nil)) := RB5
  have hX5 : Blk w5 xb 29 (xD (.slice none 0 0)) := X5.out
  refine (flists_any r B xb s4 w5 R5.out (by omega) hX5 hb4.out).mono ?_
  rintro e w6 ⟨Ad, cd, Ap, cp, rfl, hX6, od, op, gd, gp, hR, t⟩
  have hlD := listN_len 2 s4 hb4.out
  have hlP := listN_len 8 _ (listN_bytes (a := 2) (by omega) hb4.out)
  have T6 := Lib.hid (T5.out.trans (W := fun _ => False) t (fun _ e => e) (fun i e => .inr (by omega)))
  have RB6 := Lib.hid (RB5.out.turned t (fun e => by omega))
  have hsz6 := Nat.le_trans hsz5 t.size
  have R6 := Lib.hid hR
  have owd := Lib.hid od
  have owp := Lib.hid op
  have owdB := Lib.hid (fun g (e : Ad = some ⟨g, 0, none⟩) => (show xb < g by have := gd g e; omega))
  have owpB := Lib.hid (fun g (e : Ap = some ⟨g, 0, none⟩) => (show xb < g by have := gp g e; omega))
  have X6 : Hid (Blk w6 xb 29 (recC (⟨0, 0, 0, 0, 5, 0, [], [], [], (listN 2 s4).1, (listN 8 (listN 2 s4).2).1⟩ : Rec) (⟨⟨none, 0, 0⟩, ⟨none, 0, 0⟩, ⟨none, 0, 0⟩, ⟨Ad, (listN 2 s4).1.length, cd⟩, ⟨Ap, (listN 8 (listN 2 s4).2).1.length, cp⟩⟩ : RecS))) := Lib.hid hX6
  clear hX6 od op gd gp hR t R5 T5 RB5 X5 hX5 hb4
  generalize (listN 8 (listN 2 s4).2).1 = ps at *
  generalize (listN 8 (listN 2 s4).2).2 = s9 at *
  generalize (listN 2 s4).1 = ds at *
  obtain ⟨x0, x1, x2, x3, x4, x5, x6, x7, x8, x9, x10⟩ := RecAt.of_blk (R := (⟨0, 0, 0, 0, 5, 0, [], [], [], ds, ps⟩ : Rec)) (S := (⟨⟨none, 0, 0⟩, ⟨none, 0, 0⟩, ⟨none, 0, 0⟩, ⟨Ad, ds.length, cd⟩, ⟨Ap, ps.length, cp⟩⟩ : RecS)) X6.out
  simp only at x0 x1 x2 x3 x4 x5 x6 x7 x8 x9 x10
  have xf := X6.out.frozen
  clear x0 x1 x2 x3 x4 x5 x6 x7 x8 x9 x10 xf
  obtain ⟨x0, x1, x2, x3, x4, x5, x6, x7, x8, x9, x10⟩ := RecAt.of_blk (R := (⟨0, 0, 0, 0, 5, 0, [], [], [], ds, ps⟩ : Rec)) (S := (⟨⟨none, 0, 0⟩, ⟨none, 0, 0⟩, ⟨none, 0, 0⟩, ⟨Ad, ds.length, cd⟩, ⟨Ap, ps.length, cp⟩⟩ : RecS)) X6.out
  simp only at x0 x1 x2 x3 x4 x5 x6 x7 x8 x9 x10
  have xf := X6.out.frozen
  cases hse : s9 with
  | none =>
    rw [hse] at R6
    obtain ⟨Ar, nr, cr, r0, r1⟩ := rdF_end R6.out
    obtain ⟨y0, y1, y2, y3, y4, y5, y6, y7, y8, y9, y10⟩ := RecAt.of_blk (R := Rec.zero) (S := RecS.nil) RB6.out
    simp only [Rec.zero, RecS.nil, Sl.nil] at y0 y1 y2 y3 y4 y5 y6 y7 y8 y9 y10
    have yf := RB6.out.frozen
    have hno := Lib.hid (show getR zs = none by rw [HG.out, hse]; exact fin_none _ _)
    go_wp2_with fail
    obtain ⟨wz, hwz, XZ, tZ⟩ := fin11 (.int .i64 0) (.int .i64 0) (.int .i64 0) (.int .i64 0) (.int .u8 0) (.int .i64 0) (.slice none 0 0) (.slice none 0 0) (.slice none 0 0) (.slice none 0 0) (.slice none 0 0) RB6.out
    rw [hwz]
    clear hwz
    have TZ := T6.out.trans (W := fun _ => False) tZ (fun _ e => e) (fun i e => .inr (by omega))
    obtain ⟨e0, e1, e2, e3, e4, e5, e6, e7, e8, e9, e10⟩ := XZ.cells11
    refine bodyPost_ret (v := .tuple #[.agg #[.int .i64 0, .int .i64 0, .int .i64 0, .int .i64 0, .int .u8 0, .int .i64 0, .slice none 0 0, .slice none 0 0, .slice none 0 0, .slice none 0 0, .slice none 0 0], .int .i64 0, .int .i64 4]) (by simp [results, Tryz.results21, go_sem, e0, e1, e2, e3, e4, e5, e6, e7, e8, e9, e10]) rfl ?_
    exact .inr ⟨hno.out, rfl, TZ⟩
  | some ys =>
    cases ys with
    | cons y ys =>
      rw [hse] at R6
      obtain ⟨Ar, nr, cr, r0, r1, hn1, hn2⟩ := rdF_some R6.out
      have hn3 : (0 : Int) < (nr : Int) := by rw [hn1, List.length_cons]; omega
      have hn4 : 0 < nr := by omega
      clear hn1
      obtain ⟨y0, y1, y2, y3, y4, y5, y6, y7, y8, y9, y10⟩ := RecAt.of_blk (R := Rec.zero) (S := RecS.nil) RB6.out
      simp only [Rec.zero, RecS.nil, Sl.nil] at y0 y1 y2 y3 y4 y5 y6 y7 y8 y9 y10
      have yf := RB6.out.frozen
      have hno := Lib.hid (show getR zs = none by rw [HG.out, hse]; exact fin_more _ _ _ _)
      go_wp2_with fail
      obtain ⟨wz, hwz, XZ, tZ⟩ := fin11 (.int .i64 0) (.int .i64 0) (.int .i64 0) (.int .i64 0) (.int .u8 0) (.int .i64 0) (.slice none 0 0) (.slice none 0 0) (.slice none 0 0) (.slice none 0 0) (.slice none 0 0) RB6.out
      rw [hwz]
      clear hwz
      have TZ := T6.out.trans (W := fun _ => False) tZ (fun _ e => e) (fun i e => .inr (by omega))
      obtain ⟨e0, e1, e2, e3, e4, e5, e6, e7, e8, e9, e10⟩ := XZ.cells11
      refine bodyPost_ret (v := .tuple #[.agg #[.int .i64 0, .int .i64 0, .int .i64 0, .int .i64 0, .int .u8 0, .int .i64 0, .slice none 0 0, .slice none 0 0, .slice none 0 0, .slice none 0 0, .slice none 0 0], .int .i64 0, .int .i64 4]) (by simp [results, Tryz.results21, go_sem, e0, e1, e2, e3, e4, e5, e6, e7, e8, e9, e10]) rfl ?_
      exact .inr ⟨hno.out, rfl, TZ⟩
    | nil =>
      rw [hse] at R6
      obtain ⟨Ar, nr, cr, r0, r1, hn1, hn2⟩ := rdF_some R6.out
      obtain rfl : nr = 0 := hn1
      obtain ⟨y0, y1, y2, y3, y4, y5, y6, y7, y8, y9, y10⟩ := RecAt.of_blk (R := Rec.zero) (S := RecS.nil) RB6.out
      simp only [Rec.zero, RecS.nil, Sl.nil] at y0 y1 y2 y3 y4 y5 y6 y7 y8 y9 y10
      have yf := RB6.out.frozen
      go_wp2_with fail
      have hOwn : RecOwn w6 w.heap.size (⟨0, 0, 0, 0, 5, 0, [], [], [], ds, ps⟩ : Rec) (⟨⟨none, 0, 0⟩, ⟨none, 0, 0⟩, ⟨none, 0, 0⟩, ⟨Ad, ds.length, cd⟩, ⟨Ap, ps.length, cp⟩⟩ : RecS) := ⟨OwnV.nil _, OwnV.nil _, OwnV.nil _, owd.out, owp.out, (fun g e => by cases e), (fun g e => by cases e), (fun g e => by cases e), (fun g e => by have := owdB.out g e; omega), (fun g e => by have := owpB.out g e; omega), (fun g e => by cases e), (fun g e => by cases e), (fun g e => by cases e), ⟨Nat.zero_le _, Nat.zero_le _, Nat.zero_le _, by show ds.length ≤ 1000000; omega, by show ps.length ≤ 1000000; omega⟩⟩
      have hRt := fright_any (⟨0, 0, 0, 0, 5, 0, [], [], [], ds, ps⟩ : Rec) (⟨⟨none, 0, 0⟩, ⟨none, 0, 0⟩, ⟨none, 0, 0⟩, ⟨Ad, ds.length, cd⟩, ⟨Ap, ps.length, cp⟩⟩ : RecS) w6 hOwn.is
      have HO := Lib.hid hOwn
      unfold recC at hRt
      simp only at hRt
      clear hOwn y0 y1 y2 y3 y4 y5 y6 y7 y8 y9 y10 yf r0 r1 hn2
      cases hrr : rightR (⟨0, 0, 0, 0, 5, 0, [], [], [], ds, ps⟩ : Rec) with
      | false =>
        rw [hrr] at hRt
        refine hRt.mono ?_
        rintro e wq ⟨rfl, tq⟩
        have TQ := Lib.hid (T6.out.and_ tq)
        have RBQ := Lib.hid (RB6.out.turned tq (fun e => e))
        have XQ := Lib.hid (X6.out.turned tq (fun e => e))
        have HOQ := Lib.hid (HO.out.fresh tq)
        clear x0 x1 x2 x3 x4 x5 x6 x7 x8 x9 x10 xf
        obtain ⟨y0, y1, y2, y3, y4, y5, y6, y7, y8, y9, y10⟩ := RecAt.of_blk (R := Rec.zero) (S := RecS.nil) RBQ.out
        simp only [Rec.zero, RecS.nil, Sl.nil] at y0 y1 y2 y3 y4 y5 y6 y7 y8 y9 y10
        have yf := RBQ.out.frozen
        obtain ⟨x0, x1, x2, x3, x4, x5, x6, x7, x8, x9, x10⟩ := RecAt.of_blk (R := (⟨0, 0, 0, 0, 5, 0, [], [], [], ds, ps⟩ : Rec)) (S := (⟨⟨none, 0, 0⟩, ⟨none, 0, 0⟩, ⟨none, 0, 0⟩, ⟨Ad, ds.length, cd⟩, ⟨Ap, ps.length, cp⟩⟩ : RecS)) XQ.out
        simp only at x0 x1 x2 x3 x4 x5 x6 x7 x8 x9 x10
        have xf := XQ.out.frozen
        have hno := Lib.hid (show getR zs = none by rw [HG.out, hse]; exact fin_no hrr)
        clear hrr tq hRt
        go_wp2_with fail
        obtain ⟨wz, hwz, XZ, tZ⟩ := fin11 (.int .i64 0) (.int .i64 0) (.int .i64 0) (.int .i64 0) (.int .u8 0) (.int .i64 0) (.slice none 0 0) (.slice none 0 0) (.slice none 0 0) (.slice none 0 0) (.slice none 0 0) RBQ.out
        rw [hwz]
        clear hwz
        have TZ := TQ.out.trans (W := fun _ => False) tZ (fun _ e => e) (fun i e => .inr (by omega))
        obtain ⟨e0, e1, e2, e3, e4, e5, e6, e7, e8, e9, e10⟩ := XZ.cells11
        refine bodyPost_ret (v := .tuple #[.agg #[.int .i64 0, .int .i64 0, .int .i64 0, .int .i64 0, .int .u8 0, .int .i64 0, .slice none 0 0, .slice none 0 0, .slice none 0 0, .slice none 0 0, .slice none 0 0], .int .i64 0, .int .i64 4]) (by simp [results, Tryz.results21, go_sem, e0, e1, e2, e3, e4, e5, e6, e7, e8, e9, e10]) rfl ?_
        exact .inr ⟨hno.out, rfl, TZ⟩
      | true =>
        rw [hrr] at hRt
        refine hRt.mono ?_
        rintro e wq ⟨rfl, tq⟩
        have TQ := Lib.hid (T6.out.and_ tq)
        have RBQ := Lib.hid (RB6.out.turned tq (fun e => e))
        have XQ := Lib.hid (X6.out.turned tq (fun e => e))
        have HOQ := Lib.hid (HO.out.fresh tq)
        clear x0 x1 x2 x3 x4 x5 x6 x7 x8 x9 x10 xf
        obtain ⟨y0, y1, y2, y3, y4, y5, y6, y7, y8, y9, y10⟩ := RecAt.of_blk (R := Rec.zero) (S := RecS.nil) RBQ.out
        simp only [Rec.zero, RecS.nil, Sl.nil] at y0 y1 y2 y3 y4 y5 y6 y7 y8 y9 y10
        have yf := RBQ.out.frozen
        obtain ⟨x0, x1, x2, x3, x4, x5, x6, x7, x8, x9, x10⟩ := RecAt.of_blk (R := (⟨0, 0, 0, 0, 5, 0, [], [], [], ds, ps⟩ : Rec)) (S := (⟨⟨none, 0, 0⟩, ⟨none, 0, 0⟩, ⟨none, 0, 0⟩, ⟨Ad, ds.length, cd⟩, ⟨Ap, ps.length, cp⟩⟩ : RecS)) XQ.out
        simp only at x0 x1 x2 x3 x4 x5 x6 x7 x8 x9 x10
        have xf := XQ.out.frozen
        have hys := Lib.hid (show getR zs = some ((⟨0, 0, 0, 0, 5, 0, [], [], [], ds, ps⟩ : Rec), 2 + m) by rw [HG.out, hse]; exact fin_yes hrr)
        clear hrr HG tq hRt
        go_wp2_with fail
        obtain ⟨wz, hwz, XZ, tZ⟩ := fin11 (.int .i64 0) (.int .i64 0) (.int .i64 0) (.int .i64 0) (.int .u8 5) (.int .i64 0) (.slice none 0 0) (.slice none 0 0) (.slice none 0 0) (.slice Ad ds.length cd) (.slice Ap ps.length cp) RBQ.out
        rw [hwz]
        clear hwz
        have TZ := TQ.out.trans (W := fun _ => False) tZ (fun _ e => e) (fun i e => .inr (by omega))
        obtain ⟨e0, e1, e2, e3, e4, e5, e6, e7, e8, e9, e10⟩ := XZ.cells11
        refine bodyPost_ret (v := .tuple #[.agg #[.int .i64 0, .int .i64 0, .int .i64 0, .int .i64 0, .int .u8 5, .int .i64 0, .slice none 0 0, .slice none 0 0, .slice none 0 0, .slice Ad ds.length cd, .slice Ap ps.length cp], .int .i64 (2 + (m : Int)), .int .i64 0]) (by simp [results, Tryz.results21, go_sem, e0, e1, e2, e3, e4, e5, e6, e7, e8, e9, e10]) rfl ?_
        have HZ : RecOwn wz w.heap.size (⟨0, 0, 0, 0, 5, 0, [], [], [], ds, ps⟩ : Rec) (⟨⟨none, 0, 0⟩, ⟨none, 0, 0⟩, ⟨none, 0, 0⟩, ⟨Ad, ds.length, cd⟩, ⟨Ap, ps.length, cp⟩⟩ : RecS) := HOQ.out.moved tZ (fun i e => by omega) RBQ.out (by decide) (by decide) (by decide)
        exact .inl ⟨_, 2 + m, (⟨⟨none, 0, 0⟩, ⟨none, 0, 0⟩, ⟨none, 0, 0⟩, ⟨Ad, ds.length, cd⟩, ⟨Ap, ps.length, cp⟩⟩ : RecS), hys.out, by rw [Int.natCast_add]; rfl, HZ, TZ⟩
theorem fget_any (A : Option Addr) (n c : Nat) (zs : List Int) (w : World) (h : BytS w A n c zs) (hb : ∀ z ∈ zs, isByte z) (hnc : n ≤ c) (hc : c ≤ maxLen) (hn6 : n ≤ 1000000) : Calls Tryz.prog 21 #[.slice A n c] w (RGet zs w) := by
  by_cases h1 : kindOf zs = 1
  · exact fget_1 A n c zs w h hb hnc hc hn6 h1
  · by_cases h2 : kindOf zs = 2
    · exact fget_2 A n c zs w h hb hnc hc hn6 h2
    · by_cases h3 : kindOf zs = 3
      · exact fget_3 A n c zs w h hb hnc hc hn6 h3
      · by_cases h4 : kindOf zs = 4
        · exact fget_4 A n c zs w h hb hnc hc hn6 h4
        · by_cases h5 : kindOf zs = 5
          · exact fget_5 A n c zs w h hb hnc hc hn6 h5
          · by_cases h6 : kindOf zs = 6
            · exact fget_6 A n c zs w h hb hnc hc hn6 h6
            · exact fget_rest A n c zs w h hb hnc hc hn6 h1 h2 h3 h4 h5 h6
end Go.Proofs.YtohajofkflibjaaGreatDoor

