/-
  record.Get: the record that bytes begin with. No condition but the bytes' number.
-/
import Derived.Test.YtfheikmjjijdpaaDoorQRecG
import Derived.Test.YtfheikmjjijdpaaDoorQRecF
namespace Go.Proofs.YtfheikmjjijdpaaDoor
open Go.RowKit Go.Maps
set_option linter.unusedVariables false
set_option linter.unusedSimpArgs false

def Sl.nil : Sl := ⟨none, 0, 0⟩
def RecS.nil : RecS := ⟨Sl.nil, Sl.nil, Sl.nil, Sl.nil, Sl.nil⟩
/-- A record whose lists lie in memory of their own, from block B on. -/
structure RecOwn (w : World) (B : Nat) (R : Rec) (S : RecS) : Prop where
  key : OwnV w S.K.A S.K.n S.K.c R.key
  old : OwnV w S.O.A S.O.n S.O.c R.old
  new : OwnV w S.N.A S.N.n S.N.c R.new
  dirty : OwnE w 95 2 S.D.A S.D.n S.D.c (pairC R.dirty)
  opn : OwnE w 97 2 S.P.A S.P.n S.P.c (pairC R.opn)
  kB : ∀ g, S.K.A = some ⟨g, 0, none⟩ → B ≤ g
  oB : ∀ g, S.O.A = some ⟨g, 0, none⟩ → B ≤ g
  nB : ∀ g, S.N.A = some ⟨g, 0, none⟩ → B ≤ g
  dB : ∀ g, S.D.A = some ⟨g, 0, none⟩ → B ≤ g
  pB : ∀ g, S.P.A = some ⟨g, 0, none⟩ → B ≤ g
  ko : ∀ g, S.K.A = some ⟨g, 0, none⟩ → S.O.A ≠ some ⟨g, 0, none⟩
  kn : ∀ g, S.K.A = some ⟨g, 0, none⟩ → S.N.A ≠ some ⟨g, 0, none⟩
  on : ∀ g, S.O.A = some ⟨g, 0, none⟩ → S.N.A ≠ some ⟨g, 0, none⟩
  few : S.K.n ≤ 1000000 ∧ S.O.n ≤ 1000000 ∧ S.N.n ≤ 1000000 ∧ S.D.n ≤ 1000000 ∧ S.P.n ≤ 1000000
theorem RecOwn.fresh {w w' : World} {B : Nat} {R : Rec} {S : RecS} (h : RecOwn w B R S) (ht : Turned (fun _ => False) w w') : RecOwn w' B R S :=
  ⟨h.key.turned ht (fun _ _ e => e), h.old.turned ht (fun _ _ e => e), h.new.turned ht (fun _ _ e => e), h.dirty.fresh ht, h.opn.fresh ht, h.kB, h.oB, h.nB, h.dB, h.pB, h.ko, h.kn, h.on, h.few⟩
theorem OwnV.slB {w : World} {s : Sl} {zs : List Int} (h : OwnV w s.A s.n s.c zs) (hn : s.n ≤ 1000000) : SlB w s zs := by
  refine ⟨⟨?_, fun e => ?_⟩, h.max.1, h.max.2, by omega⟩
  · rcases h.row_or with ⟨e1, e2, e3, e4⟩ | ⟨g, e1, hr⟩
    · rw [e1, e2, e4]; exact BytR.none_ w
    · rw [e1]; exact hr.bytR
  · rcases h.row_or with ⟨_, e2, e3, _⟩ | ⟨g, e1, hr⟩
    · exact ⟨e2, e3⟩
    · rw [e1] at e; cases e
theorem OwnE.slP {w : World} {T : TypeId} {s : Sl} {l : List (Int × Int)} (h : OwnE w T 2 s.A s.n s.c (pairC l)) (hn : s.n ≤ 1000000) : SlP w s l := by
  refine ⟨h.celR, ?_, fun e => ?_, h.max.1, h.max.2, by omega⟩
  · have := h.len
    rw [pairC_length] at this
    omega
  · rcases h.row_or with ⟨_, e2, e3, _⟩ | ⟨g, e1, hr⟩
    · exact ⟨e2, e3⟩
    · rw [e1] at e; cases e
theorem RecOwn.is {w : World} {B : Nat} {R : Rec} {S : RecS} (h : RecOwn w B R S) : RecIs w R S :=
  ⟨h.key.slB h.few.1, h.old.slB h.few.2.1, h.new.slB h.few.2.2.1, h.dirty.slP h.few.2.2.2.1, h.opn.slP h.few.2.2.2.2⟩
def RGet (zs : List Int) (w : World) (e : Ending) (w' : World) : Prop :=
  (∃ R n S, getR zs = some (R, n) ∧ e = .returned (.tuple #[.agg (recC R S), .int .i64 (n : Int), .int .i64 0]) ∧ RecOwn w' w.heap.size R S ∧ Turned (fun _ => False) w w') ∨
  (getR zs = none ∧ e = .returned (.tuple #[.agg (recC Rec.zero RecS.nil), .int .i64 0, .int .i64 4]) ∧ Turned (fun _ => False) w w')
theorem isRd_in {w' : World} {r k : Nat} {s : Option (List Int)} {A : Option Addr} {n c : Nat} (hy : BytS w' A n c (takeS k s).1) (hnc : n ≤ c) (hc : c ≤ maxLen) (hp : PlA r A) (hR : IsRd w' r (takeS k s).2) : IsRd (w'.setCell ⟨r, 0, none⟩ (.slice A n c)) r (inS k s) := by
  unfold inS
  cases hs : (takeS k s).2 with
  | none =>
    rw [hs] at hR
    obtain ⟨A2, n2, c2, hb, hn⟩ := hR
    exact ⟨A, n, c, hb.set_ 0 _, Nat.le_trans hnc hc⟩
  | some ys =>
    rw [hs] at hR
    obtain ⟨A2, n2, c2, hb, _⟩ := hR
    exact ⟨A, n, c, hb.set_ 0 _, hy.turned0 ((Turned.refl (· = r) w').setCell (p := ⟨r, 0, none⟩) (.inl rfl) _) (fun _ b o e e2 => by have := hp.lt b o e; omega), hnc, hc, hp⟩
theorem inS_bytes {k : Nat} {s : Option (List Int)} (hs : ∀ ys, s = some ys → ∀ y ∈ ys, isByte y) : ∀ ys, inS k s = some ys → ∀ y ∈ ys, isByte y := by
  intro ys e y hy
  unfold inS at e
  cases h : (takeS k s).2 with
  | none => rw [h] at e; cases e
  | some xs =>
    rw [h] at e
    injection e with e
    subst e
    exact takeS_byte hs y hy
theorem rd_end {w : World} {r : Nat} (h : IsRd w r none) : ∃ A n c, w.cell? ⟨r, 0, none⟩ = some (.slice A n c) ∧ w.cell? ⟨r, 1, none⟩ = some (.bool true) := by
  obtain ⟨A, n, c, hb, _⟩ := h
  exact ⟨A, n, c, hb.cell 0, hb.cell 1⟩
theorem rd_some {w : World} {r : Nat} {ys : List Int} (h : IsRd w r (some ys)) : ∃ A n c, w.cell? ⟨r, 0, none⟩ = some (.slice A n c) ∧ w.cell? ⟨r, 1, none⟩ = some (.bool false) ∧ n = ys.length ∧ n ≤ 9223372036854775807 := by
  obtain ⟨A, n, c, hb, hy, hnc, hc, _⟩ := h
  unfold maxLen at hc
  exact ⟨A, n, c, hb.cell 0, hb.cell 1, hy.len.symm, by omega⟩
theorem fin_none (n : Nat) (R : Rec) : finR n (R, none) = none := rfl
theorem fin_more (n : Nat) (R : Rec) (y : Int) (ys : List Int) : finR n (R, some (y :: ys)) = none := rfl
theorem fin_no {n : Nat} {R : Rec} (h : rightR R = false) : finR n (R, some []) = none := by
  unfold finR
  simp only
  rw [h]
  rfl
theorem fin_yes {n : Nat} {R : Rec} (h : rightR R = true) : finR n (R, some []) = some (R, 2 + n) := by
  unfold finR
  simp only
  rw [h]
  rfl
theorem rd_blk {w : World} {r : Nat} {s : Option (List Int)} (h : IsRd w r s) : ∃ A n c sh, RdBlk w r A n c sh := by
  cases s with
  | none => obtain ⟨A, n, c, hb, _⟩ := h; exact ⟨A, n, c, _, hb⟩
  | some zs => obtain ⟨A, n, c, hb, _⟩ := h; exact ⟨A, n, c, _, hb⟩
def kindOf (zs : List Int) : Int := (numS 1 (inS (numS 2 (some zs)).1.toNat (numS 2 (some zs)).2)).1
theorem listN_bytes {a : Nat} (ha : a ≤ 8) {s : Option (List Int)} (hs : ∀ ys, s = some ys → ∀ y ∈ ys, isByte y) : ∀ ys, (listN a s).2 = some ys → ∀ y ∈ ys, isByte y := by
  intro ys e y hy
  obtain ⟨e2, _⟩ := listN_fall ha hs e
  exact hs _ e2 y (by simp [hy])
theorem listN_len (a : Nat) (s : Option (List Int)) (hs : ∀ ys, s = some ys → ∀ y ∈ ys, isByte y) : (listN a s).1.length ≤ 65535 := by
  obtain ⟨k, hk, hk2⟩ := numS2_nat s hs
  unfold listN
  rw [hk, Int.toNat_natCast]
  have : ∀ (k : Nat) (s : Option (List Int)), (listS a k s).1.length ≤ k := by
    intro k
    induction k with
    | zero => intro s; exact Nat.le_refl _
    | succ k ih =>
      intro s
      cases s with
      | none => exact Nat.zero_le _
      | some zs =>
        show ((pairS a (some zs)).1 :: (listS a k (pairS a (some zs)).2).1).length ≤ k + 1
        rw [List.length_cons]
        have := ih (pairS a (some zs)).2
        omega
  exact Nat.le_trans (this k _) hk2
theorem rowS_len (s : Option (List Int)) (hs : ∀ ys, s = some ys → ∀ y ∈ ys, isByte y) : (rowS s).1.length ≤ 255 := by
  obtain ⟨k, hk, hk2⟩ := numS1_nat s hs
  unfold rowS
  rw [hk, Int.toNat_natCast]
  exact Nat.le_trans (takeS_len k _) hk2
theorem Blk.set11 {w : World} {g : Nat} {T : TypeId} {a0 a1 a2 a3 a4 a5 a6 a7 a8 a9 a10 : Value} (v0 v1 v2 v3 v4 v5 v6 v7 v8 v9 v10 : Value) (h : Blk w g T #[a0, a1, a2, a3, a4, a5, a6, a7, a8, a9, a10]) : Blk (((((((((((w.setCell ⟨g, 0, none⟩ v0).setCell ⟨g, 1, none⟩ v1).setCell ⟨g, 2, none⟩ v2).setCell ⟨g, 3, none⟩ v3).setCell ⟨g, 4, none⟩ v4).setCell ⟨g, 5, none⟩ v5).setCell ⟨g, 6, none⟩ v6).setCell ⟨g, 7, none⟩ v7).setCell ⟨g, 8, none⟩ v8).setCell ⟨g, 9, none⟩ v9).setCell ⟨g, 10, none⟩ v10) g T #[v0, v1, v2, v3, v4, v5, v6, v7, v8, v9, v10] := by
  have h1 := (((((((((((h.set_ 0 v0).set_ 1 v1).set_ 2 v2).set_ 3 v3).set_ 4 v4).set_ 5 v5).set_ 6 v6).set_ 7 v7).set_ 8 v8).set_ 9 v9).set_ 10 v10)
  simp only [List.setIfInBounds_toArray, List.set_cons_zero, List.set_cons_succ] at h1
  exact h1
/-- Eleven stores into a block, told at once. -/
theorem fin11 {w : World} {g : Nat} {T : TypeId} {a0 a1 a2 a3 a4 a5 a6 a7 a8 a9 a10 : Value} (v0 v1 v2 v3 v4 v5 v6 v7 v8 v9 v10 : Value) (h : Blk w g T #[a0, a1, a2, a3, a4, a5, a6, a7, a8, a9, a10]) :
    ∃ wz, (((((((((((w.setCell ⟨g, 0, none⟩ v0).setCell ⟨g, 1, none⟩ v1).setCell ⟨g, 2, none⟩ v2).setCell ⟨g, 3, none⟩ v3).setCell ⟨g, 4, none⟩ v4).setCell ⟨g, 5, none⟩ v5).setCell ⟨g, 6, none⟩ v6).setCell ⟨g, 7, none⟩ v7).setCell ⟨g, 8, none⟩ v8).setCell ⟨g, 9, none⟩ v9).setCell ⟨g, 10, none⟩ v10) = wz ∧ Blk wz g T #[v0, v1, v2, v3, v4, v5, v6, v7, v8, v9, v10] ∧ Turned (fun i => i = g) w wz :=
  ⟨_, rfl, Blk.set11 v0 v1 v2 v3 v4 v5 v6 v7 v8 v9 v10 h, ((((((((((((Turned.refl (fun i => i = g) w).setCell (p := ⟨g, 0, none⟩) (.inl rfl) v0).setCell (p := ⟨g, 1, none⟩) (.inl rfl) v1).setCell (p := ⟨g, 2, none⟩) (.inl rfl) v2).setCell (p := ⟨g, 3, none⟩) (.inl rfl) v3).setCell (p := ⟨g, 4, none⟩) (.inl rfl) v4).setCell (p := ⟨g, 5, none⟩) (.inl rfl) v5).setCell (p := ⟨g, 6, none⟩) (.inl rfl) v6).setCell (p := ⟨g, 7, none⟩) (.inl rfl) v7).setCell (p := ⟨g, 8, none⟩) (.inl rfl) v8).setCell (p := ⟨g, 9, none⟩) (.inl rfl) v9).setCell (p := ⟨g, 10, none⟩) (.inl rfl) v10)⟩
theorem RecOwn.moved {w w' : World} {W : Nat → Prop} {B b : Nat} {T : TypeId} {cs : Array Value} {R : Rec} {S : RecS} (h : RecOwn w B R S) (ht : Turned W w w') (hW : ∀ i, W i → i = b) (hb : Blk w b T cs) (h1 : T ≠ 5) (h2 : T ≠ 95) (h3 : T ≠ 97) : RecOwn w' B R S :=
  ⟨h.key.turned ht (fun g e e2 => h.key.blk hb h1 e (hW g e2)), h.old.turned ht (fun g e e2 => h.old.blk hb h1 e (hW g e2)), h.new.turned ht (fun g e e2 => h.new.blk hb h1 e (hW g e2)), h.dirty.turned ht (fun g e e2 => h.dirty.blk hb h2 e (hW g e2)), h.opn.turned ht (fun g e e2 => h.opn.blk hb h3 e (hW g e2)),
    h.kB, h.oB, h.nB, h.dB, h.pB, h.ko, h.kn, h.on, h.few⟩
set_option maxRecDepth 100000 in
set_option maxHeartbeats 1000000 in
theorem get_5 (A : Option Addr) (n c : Nat) (zs : List Int) (w : World) (h : BytS w A n c zs) (hb : ∀ z ∈ zs, isByte z) (hnc : n ≤ c) (hc : c ≤ maxLen) (hk : kindOf zs = 5) : Calls Tryd.prog 51 #[.slice A n c] w (RGet zs w) := by
  have hbS : ∀ ys, (some zs : Option (List Int)) = some ys → ∀ y ∈ ys, isByte y := fun ys e y hy => by injection e with e; subst e; exact hb y hy
  obtain ⟨m, hm, hm2⟩ := numS2_nat (some zs) hbS
  have hG : getR zs = finR m (restS (kindOf zs) (numS 1 (inS m (numS 2 (some zs)).2)).2) := by
    unfold getR getS kindOf
    rw [hm, Int.toNat_natCast]
  have hkd : (numS 1 (inS m (numS 2 (some zs)).2)).1 = kindOf zs := by
    unfold kindOf
    rw [hm, Int.toNat_natCast]
  obtain ⟨kk, hkk, hk255⟩ := numS1_nat (inS m (numS 2 (some zs)).2) (inS_bytes (numS_bytes hbS))
  rw [hkd] at hkk
  rw [hk] at hG
  clear hkk hk255
  have hcm := hc
  unfold maxLen at hcm
  have hpl : 0 < n → PlA (w.heap.size + 1) A := fun h0 => by
    obtain ⟨b, off, e, hcl⟩ := h.cell h0
    have := World.block_lt_of_cell? w ⟨b, off + 0, none⟩ (hcl 0 h0)
    exact .inr ⟨b, off, e, by simp at this; omega⟩
  have hRB := (Blk.new w 39 #[.int .i64 0, .int .i64 0, .int .i64 0, .int .i64 0, .int .u8 0, .int .i64 0, .slice none 0 0, .slice none 0 0, .slice none 0 0, .slice none 0 0, .slice none 0 0]).alloc (.cells #[.slice A n c, .bool false] 135)
  have hRd : RdBlk ((w.alloc (.cells #[.int .i64 0, .int .i64 0, .int .i64 0, .int .i64 0, .int .u8 0, .int .i64 0, .slice none 0 0, .slice none 0 0, .slice none 0 0, .slice none 0 0, .slice none 0 0] 39)).alloc (.cells #[.slice A n c, .bool false] 135)) (w.heap.size + 1) A n c false := Blk.new_at _ _ _ (by simp)
  have hT := ((Turned.refl (fun _ => False) w).alloc (.cells #[.int .i64 0, .int .i64 0, .int .i64 0, .int .i64 0, .int .u8 0, .int .i64 0, .slice none 0 0, .slice none 0 0, .slice none 0 0, .slice none 0 0, .slice none 0 0] 39)).alloc (.cells #[.slice A n c, .bool false] 135)
  have hs0 : ((w.alloc (.cells #[.int .i64 0, .int .i64 0, .int .i64 0, .int .i64 0, .int .u8 0, .int .i64 0, .slice none 0 0, .slice none 0 0, .slice none 0 0, .slice none 0 0, .slice none 0 0] 39)).alloc (.cells #[.slice A n c, .bool false] 135)).heap.size = w.heap.size + 2 := by simp
  have hN1 : Calls Tryd.prog 71 #[.pointer (some ⟨w.heap.size + 1, 0, none⟩), .int .i64 (2 : Nat)] ((w.alloc (.cells #[.int .i64 0, .int .i64 0, .int .i64 0, .int .i64 0, .int .u8 0, .int .i64 0, .slice none 0 0, .slice none 0 0, .slice none 0 0, .slice none 0 0, .slice none 0 0] 39)).alloc (.cells #[.slice A n c, .bool false] 135)) (NumSPost (w.heap.size + 1) 2 (some zs) ((w.alloc (.cells #[.int .i64 0, .int .i64 0, .int .i64 0, .int .i64 0, .int .u8 0, .int .i64 0, .slice none 0 0, .slice none 0 0, .slice none 0 0, .slice none 0 0, .slice none 0 0] 39)).alloc (.cells #[.slice A n c, .bool false] 135))) := by
    rcases Nat.lt_or_ge n 2 with hlt | hge
    · exact number_by _ 2 (some zs) _ (take_short _ A n c 2 false _ hRd (by omega) (by omega) (.inr hlt) (some zs) (takeS_short (by rw [h.len]; exact hlt))) (by omega) hbS
    · exact number_any _ 2 (some zs) _ ⟨A, n, c, hRd, h.turned hT (fun _ _ _ e => e), hnc, hc, hpl (by omega)⟩ (by omega) hbS
  unfold NumSPost at hN1
  rw [hm] at hN1
  have hb1 := Lib.hid (numS_bytes (k := 2) hbS)
  have hN1' := Lib.hid hN1
  have RB0 := Lib.hid hRB
  have T0 := Lib.hid hT
  have HG := Lib.hid hG
  have HKD := Lib.hid hkd
  clear hN1 hRB hRd hT hG hkd hm hpl h hb hbS
  generalize (numS 2 (some zs)).2 = s1 at *
  go_enter Tryd.func51, Tryd.ntmps51
  go_wp2_with fail
  generalize (w.alloc (.cells #[.int .i64 0, .int .i64 0, .int .i64 0, .int .i64 0, .int .u8 0, .int .i64 0, .slice none 0 0, .slice none 0 0, .slice none 0 0, .slice none 0 0, .slice none 0 0] 39)).alloc (.cells #[.slice A n c, .bool false] 135) = w0 at *
  refine hN1'.out.mono ?_
  rintro e w1 ⟨rfl, hR1, t1⟩
  have R1 := Lib.hid hR1
  have T1 := Lib.hid (T0.out.trans (W := fun _ => False) t1 (fun _ e => e) (fun i e => .inr (by omega)))
  have RB1 := Lib.hid (RB0.out.turned t1 (fun e => by omega))
  clear hR1 t1 T0 RB0 hN1'
  go_wp2_with fail
  refine (take_any (w.heap.size + 1) m s1 w1 R1.out (by omega)).mono ?_
  rintro e w2 ⟨A2, n2, c2, rfl, hy2, hnc2, hc2, hp2, hR2, t2⟩
  have R3 := Lib.hid (isRd_in hy2 hnc2 hc2 hp2 hR2)
  obtain ⟨A3, n3, c3, sh3, hq3⟩ := rd_blk hR2
  have q0 : w2.cell? ⟨w.heap.size + 1, 0, none⟩ = some (.slice A3 n3 c3) := hq3.cell 0
  have f0 := hq3.frozen 0
  have t3 := t2.setCell (p := ⟨w.heap.size + 1, 0, none⟩) (.inl rfl) (.slice A2 n2 c2)
  have T3 := Lib.hid (T1.out.trans (W := fun _ => False) t3 (fun _ e => e) (fun i e => .inr (by omega)))
  have RB3 := Lib.hid (RB1.out.turned t3 (fun e => by omega))
  clear hy2 hnc2 hc2 hp2 hR2 t2 t3 hq3 R1 T1 RB1
  go_wp2_with fail
  generalize w2.setCell ⟨w.heap.size + 1, 0, none⟩ (.slice A2 n2 c2) = w3 at *
  have hN3 := number_any (w.heap.size + 1) 1 (inS m s1) w3 R3.out (by omega) (inS_bytes hb1.out)
  unfold NumSPost at hN3
  rw [HKD.out, hk] at hN3
  refine hN3.mono ?_
  rintro e w4 ⟨rfl, hR4, t4⟩
  have R4 := Lib.hid hR4
  have T4 := Lib.hid (T3.out.trans (W := fun _ => False) t4 (fun _ e => e) (fun i e => .inr (by omega)))
  have RB4 := Lib.hid (RB3.out.turned t4 (fun e => by omega))
  have hb4 := Lib.hid (numS_bytes (k := 1) (inS_bytes hb1.out (k := m)))
  clear hR4 t4 T3 RB3 R3 q0 f0 hN3 hb1
  generalize (numS 1 (inS m s1)).2 = s4 at *
  clear HKD
  have hxr := R4.out.lt
  have hwr : w.heap.size < w.heap.size + 1 := by omega
  have HG := Lib.hid (show getR zs = finR m (⟨0, 0, 0, 0, 5, 0, [], [], [], (listN 2 s4).1, (listN 8 (listN 2 s4).2).1⟩, (listN 8 (listN 2 s4).2).2) from HG.out)
  generalize w.heap.size + 1 = r at *
  have H1 := Lib.hid (fun (w' : World) (h : IsRd w' r s4) => listdirty_any r s4 w' h hb4.out)
  have hb5 := Lib.hid (listN_bytes (a := 2) (by omega) hb4.out)
  have hlds := listN_len 2 s4 hb4.out
  unfold ListPost at H1
  generalize (listN 2 s4).1 = ds at *
  generalize (listN 2 s4).2 = s5 at *
  clear hb4
  have H2 := Lib.hid (fun (w' : World) (h : IsRd w' r s5) => listopen_any r s5 w' h hb5.out)
  have hb6 := Lib.hid (listN_bytes (a := 8) (by omega) hb5.out)
  have hlps := listN_len 8 s5 hb5.out
  unfold ListPost at H2
  generalize (listN 8 s5).1 = ps at *
  generalize (listN 8 s5).2 = s6 at *
  clear hb5
  have X5 := Lib.hid (Blk.new w4 39 (recC (⟨0, 0, 0, 0, 5, 0, [], [], [], [], []⟩ : Rec) (⟨⟨none, 0, 0⟩, ⟨none, 0, 0⟩, ⟨none, 0, 0⟩, ⟨none, 0, 0⟩, ⟨none, 0, 0⟩⟩ : RecS)))
  have t5 := (Turned.refl (fun _ => False) w4).alloc (.cells (recC (⟨0, 0, 0, 0, 5, 0, [], [], [], [], []⟩ : Rec) (⟨⟨none, 0, 0⟩, ⟨none, 0, 0⟩, ⟨none, 0, 0⟩, ⟨none, 0, 0⟩, ⟨none, 0, 0⟩⟩ : RecS)) 39)
  have hsz5 : w4.heap.size + 1 ≤ (w4.alloc (.cells (recC (⟨0, 0, 0, 0, 5, 0, [], [], [], [], []⟩ : Rec) (⟨⟨none, 0, 0⟩, ⟨none, 0, 0⟩, ⟨none, 0, 0⟩, ⟨none, 0, 0⟩, ⟨none, 0, 0⟩⟩ : RecS)) 39)).heap.size := by simp
  have R5 := Lib.hid (R4.out.fresh t5)
  have T5 := Lib.hid (T4.out.and_ t5)
  have RB5 := Lib.hid (RB4.out.turned t5 (fun e => e))
  clear t5 R4 T4 RB4
  unfold recC at X5 hsz5 R5 T5 RB5
  simp only at X5 hsz5 R5 T5 RB5
  go_wp2_with fail
  generalize w4.alloc (.cells #[.int .i64 0, .int .i64 0, .int .i64 0, .int .i64 0, .int .u8 5, .int .i64 0, .slice none 0 0, .slice none 0 0, .slice none 0 0, .slice none 0 0, .slice none 0 0] 39) = w5 at *
  generalize w4.heap.size = xb at *
  have hne1 : ¬ (r = xb) := by omega
  have hne2 : ¬ (xb = r) := by omega
  have hne3 : ¬ (w.heap.size = xb) := by omega
  have hne4 : ¬ (xb = w.heap.size) := by omega
  have hne5 : ¬ (w.heap.size = r) := by omega
  have hne6 : ¬ (r = w.heap.size) := by omega
  have RB5 : Hid (Blk w5 w.heap.size 39 (recC Rec.zero RecS.nil)) := RB5
  obtain ⟨x0, x1, x2, x3, x4, x5, x6, x7, x8, x9, x10⟩ := RecAt.of_blk (R := (⟨0, 0, 0, 0, 5, 0, [], [], [], [], []⟩ : Rec)) (S := (⟨⟨none, 0, 0⟩, ⟨none, 0, 0⟩, ⟨none, 0, 0⟩, ⟨none, 0, 0⟩, ⟨none, 0, 0⟩⟩ : RecS)) X5.out
  simp only at x0 x1 x2 x3 x4 x5 x6 x7 x8 x9 x10
  have xf := X5.out.frozen
  refine (H1.out _ R5.out).mono ?_
  rintro e w6 ⟨Ad, cd, rfl, ow, ob, hR, _, t⟩
  have owd := Lib.hid ow
  have owdB := Lib.hid (fun g (e : Ad = some ⟨g, 0, none⟩) => (show xb < g by have := ob g e; omega))
  clear ow ob
  have R6 := Lib.hid hR
  have T6 := Lib.hid (T5.out.trans (W := fun _ => False) t (fun _ e => e) (fun i e => .inr (by omega)))
  have RB6 := Lib.hid (RB5.out.turned t (fun e => by omega))
  have X6 := Lib.hid (X5.out.turned t (fun e => by omega))
  have hsz6 := Nat.le_trans hsz5 t.size
  have hmo6 := t.size
  clear hR t R5 T5 RB5 X5
  clear x0 x1 x2 x3 x4 x5 x6 x7 x8 x9 x10 xf
  obtain ⟨x0, x1, x2, x3, x4, x5, x6, x7, x8, x9, x10⟩ := RecAt.of_blk (R := (⟨0, 0, 0, 0, 5, 0, [], [], [], [], []⟩ : Rec)) (S := (⟨⟨none, 0, 0⟩, ⟨none, 0, 0⟩, ⟨none, 0, 0⟩, ⟨none, 0, 0⟩, ⟨none, 0, 0⟩⟩ : RecS)) X6.out
  simp only at x0 x1 x2 x3 x4 x5 x6 x7 x8 x9 x10
  have xf := X6.out.frozen
  go_wp2_with fail
  have tS := ((Turned.refl (fun i => i = xb) w6).setCell (p := ⟨xb, 9, none⟩) (.inl rfl) (.slice Ad ds.length cd))
  have X7 : Hid (Blk ((w6).setCell ⟨xb, 9, none⟩ (.slice Ad ds.length cd)) xb 39 (recC (⟨0, 0, 0, 0, 5, 0, [], [], [], ds, []⟩ : Rec) (⟨⟨none, 0, 0⟩, ⟨none, 0, 0⟩, ⟨none, 0, 0⟩, ⟨Ad, ds.length, cd⟩, ⟨none, 0, 0⟩⟩ : RecS))) := Lib.hid (X6.out.set_ 9 (.slice Ad ds.length cd))
  have R7 := Lib.hid (R6.out.keep tS (fun i e => by omega))
  have T7 := Lib.hid (T6.out.trans (W := fun _ => False) tS (fun _ e => e) (fun i e => .inr (by omega)))
  have RB7 := Lib.hid (RB6.out.turned tS (fun e => by omega))
  have hsz7 := Nat.le_trans hsz6 tS.size
  have owd := Lib.hid (owd.out.turned tS (fun g e e2 => owd.out.blk X6.out (by decide) e e2))
  clear tS X6 R6 T6 RB6
  generalize ((w6).setCell ⟨xb, 9, none⟩ (.slice Ad ds.length cd)) = w7 at *
  clear x0 x1 x2 x3 x4 x5 x6 x7 x8 x9 x10 xf
  obtain ⟨x0, x1, x2, x3, x4, x5, x6, x7, x8, x9, x10⟩ := RecAt.of_blk (R := (⟨0, 0, 0, 0, 5, 0, [], [], [], ds, []⟩ : Rec)) (S := (⟨⟨none, 0, 0⟩, ⟨none, 0, 0⟩, ⟨none, 0, 0⟩, ⟨Ad, ds.length, cd⟩, ⟨none, 0, 0⟩⟩ : RecS)) X7.out
  simp only at x0 x1 x2 x3 x4 x5 x6 x7 x8 x9 x10
  have xf := X7.out.frozen
  refine (H2.out _ R7.out).mono ?_
  rintro e w8 ⟨Ap, cp, rfl, ow, ob, hR, _, t⟩
  have owp := Lib.hid ow
  have owpB := Lib.hid (fun g (e : Ap = some ⟨g, 0, none⟩) => (show xb < g by have := ob g e; omega))
  clear ow ob
  have R8 := Lib.hid hR
  have T8 := Lib.hid (T7.out.trans (W := fun _ => False) t (fun _ e => e) (fun i e => .inr (by omega)))
  have RB8 := Lib.hid (RB7.out.turned t (fun e => by omega))
  have X8 := Lib.hid (X7.out.turned t (fun e => by omega))
  have hsz8 := Nat.le_trans hsz7 t.size
  have hmo8 := t.size
  have owd := Lib.hid (owd.out.turned t (fun g e e2 => by have := owdB.out g e; omega))
  clear hR t R7 T7 RB7 X7
  clear x0 x1 x2 x3 x4 x5 x6 x7 x8 x9 x10 xf
  obtain ⟨x0, x1, x2, x3, x4, x5, x6, x7, x8, x9, x10⟩ := RecAt.of_blk (R := (⟨0, 0, 0, 0, 5, 0, [], [], [], ds, []⟩ : Rec)) (S := (⟨⟨none, 0, 0⟩, ⟨none, 0, 0⟩, ⟨none, 0, 0⟩, ⟨Ad, ds.length, cd⟩, ⟨none, 0, 0⟩⟩ : RecS)) X8.out
  simp only at x0 x1 x2 x3 x4 x5 x6 x7 x8 x9 x10
  have xf := X8.out.frozen
  cases hse : s6 with
  | none =>
    rw [hse] at R8
    obtain ⟨Ar, nr, cr, r0, r1⟩ := rd_end R8.out
    obtain ⟨y0, y1, y2, y3, y4, y5, y6, y7, y8, y9, y10⟩ := RecAt.of_blk (R := Rec.zero) (S := RecS.nil) RB8.out
    simp only [Rec.zero, RecS.nil, Sl.nil] at y0 y1 y2 y3 y4 y5 y6 y7 y8 y9 y10
    have yf := RB8.out.frozen
    have hno := Lib.hid (show getR zs = none by rw [HG.out, hse]; exact fin_none _ _)
    clear HG
    go_wp2_with fail
    have tS := ((Turned.refl (fun i => i = xb) w8).setCell (p := ⟨xb, 10, none⟩) (.inl rfl) (.slice Ap ps.length cp))
    have TS := Lib.hid (T8.out.trans (W := fun _ => False) tS (fun _ e => e) (fun i e => .inr (by omega)))
    have RBS := Lib.hid (RB8.out.turned tS (fun e => by omega))
    generalize (w8.setCell ⟨xb, 10, none⟩ (.slice Ap ps.length cp)) = ws at *
    obtain ⟨wz, hwz, XZ, tZ⟩ := fin11 (.int .i64 0) (.int .i64 0) (.int .i64 0) (.int .i64 0) (.int .u8 0) (.int .i64 0) (.slice none 0 0) (.slice none 0 0) (.slice none 0 0) (.slice none 0 0) (.slice none 0 0) RBS.out
    rw [hwz]
    clear hwz
    have TZ := TS.out.trans (W := fun _ => False) tZ (fun _ e => e) (fun i e => .inr (by omega))
    obtain ⟨e0, e1, e2, e3, e4, e5, e6, e7, e8, e9, e10⟩ := XZ.cells11
    refine bodyPost_ret (v := .tuple #[.agg #[.int .i64 0, .int .i64 0, .int .i64 0, .int .i64 0, .int .u8 0, .int .i64 0, .slice none 0 0, .slice none 0 0, .slice none 0 0, .slice none 0 0, .slice none 0 0], .int .i64 0, .int .i64 4]) (by simp [results, Tryd.results51, go_sem, e0, e1, e2, e3, e4, e5, e6, e7, e8, e9, e10]) rfl ?_
    exact .inr ⟨hno.out, rfl, TZ⟩
  | some ys =>
    cases ys with
    | cons y ys =>
      rw [hse] at R8
      obtain ⟨Ar, nr, cr, r0, r1, hn1, hn2⟩ := rd_some R8.out
      have hn3 : (0 : Int) < (nr : Int) := by rw [hn1, List.length_cons]; omega
      have hn4 : 0 < nr := by omega
      clear hn1
      obtain ⟨y0, y1, y2, y3, y4, y5, y6, y7, y8, y9, y10⟩ := RecAt.of_blk (R := Rec.zero) (S := RecS.nil) RB8.out
      simp only [Rec.zero, RecS.nil, Sl.nil] at y0 y1 y2 y3 y4 y5 y6 y7 y8 y9 y10
      have yf := RB8.out.frozen
      have hno := Lib.hid (show getR zs = none by rw [HG.out, hse]; exact fin_more _ _ _ _)
      clear HG
      go_wp2_with fail
      have tS := ((Turned.refl (fun i => i = xb) w8).setCell (p := ⟨xb, 10, none⟩) (.inl rfl) (.slice Ap ps.length cp))
      have TS := Lib.hid (T8.out.trans (W := fun _ => False) tS (fun _ e => e) (fun i e => .inr (by omega)))
      have RBS := Lib.hid (RB8.out.turned tS (fun e => by omega))
      generalize (w8.setCell ⟨xb, 10, none⟩ (.slice Ap ps.length cp)) = ws at *
      obtain ⟨wz, hwz, XZ, tZ⟩ := fin11 (.int .i64 0) (.int .i64 0) (.int .i64 0) (.int .i64 0) (.int .u8 0) (.int .i64 0) (.slice none 0 0) (.slice none 0 0) (.slice none 0 0) (.slice none 0 0) (.slice none 0 0) RBS.out
      rw [hwz]
      clear hwz
      have TZ := TS.out.trans (W := fun _ => False) tZ (fun _ e => e) (fun i e => .inr (by omega))
      obtain ⟨e0, e1, e2, e3, e4, e5, e6, e7, e8, e9, e10⟩ := XZ.cells11
      refine bodyPost_ret (v := .tuple #[.agg #[.int .i64 0, .int .i64 0, .int .i64 0, .int .i64 0, .int .u8 0, .int .i64 0, .slice none 0 0, .slice none 0 0, .slice none 0 0, .slice none 0 0, .slice none 0 0], .int .i64 0, .int .i64 4]) (by simp [results, Tryd.results51, go_sem, e0, e1, e2, e3, e4, e5, e6, e7, e8, e9, e10]) rfl ?_
      exact .inr ⟨hno.out, rfl, TZ⟩
    | nil =>
      rw [hse] at R8
      obtain ⟨Ar, nr, cr, r0, r1, hn1, hn2⟩ := rd_some R8.out
      obtain rfl : nr = 0 := hn1
      obtain ⟨y0, y1, y2, y3, y4, y5, y6, y7, y8, y9, y10⟩ := RecAt.of_blk (R := Rec.zero) (S := RecS.nil) RB8.out
      simp only [Rec.zero, RecS.nil, Sl.nil] at y0 y1 y2 y3 y4 y5 y6 y7 y8 y9 y10
      have yf := RB8.out.frozen
      go_wp2_with fail
      have tS := ((Turned.refl (fun i => i = xb) w8).setCell (p := ⟨xb, 10, none⟩) (.inl rfl) (.slice Ap ps.length cp))
      have T9 := Lib.hid (T8.out.trans (W := fun _ => False) tS (fun _ e => e) (fun i e => .inr (by omega)))
      have RB9 := Lib.hid (RB8.out.turned tS (fun e => by omega))
      have X9 : Hid (Blk (w8.setCell ⟨xb, 10, none⟩ (.slice Ap ps.length cp)) xb 39 (recC (⟨0, 0, 0, 0, 5, 0, [], [], [], ds, ps⟩ : Rec) (⟨⟨none, 0, 0⟩, ⟨none, 0, 0⟩, ⟨none, 0, 0⟩, ⟨Ad, ds.length, cd⟩, ⟨Ap, ps.length, cp⟩⟩ : RecS))) := Lib.hid (X8.out.set_ 10 (.slice Ap ps.length cp))
      have owd := Lib.hid (owd.out.turned tS (fun g e e2 => owd.out.blk X8.out (by decide) e e2))
      have owp := Lib.hid (owp.out.turned tS (fun g e e2 => owp.out.blk X8.out (by decide) e e2))
      generalize (w8.setCell ⟨xb, 10, none⟩ (.slice Ap ps.length cp)) = w9 at *
      clear tS X8 T8 RB8
      have hOwn : RecOwn w9 w.heap.size (⟨0, 0, 0, 0, 5, 0, [], [], [], ds, ps⟩ : Rec) (⟨⟨none, 0, 0⟩, ⟨none, 0, 0⟩, ⟨none, 0, 0⟩, ⟨Ad, ds.length, cd⟩, ⟨Ap, ps.length, cp⟩⟩ : RecS) := ⟨OwnV.nil _, OwnV.nil _, OwnV.nil _, owd.out, owp.out, (fun g e => by cases e), (fun g e => by cases e), (fun g e => by cases e), (fun g e => by have := owdB.out g e; omega), (fun g e => by have := owpB.out g e; omega), (fun g e => by cases e), (fun g e => by cases e), (fun g e => by cases e), ⟨Nat.zero_le _, Nat.zero_le _, Nat.zero_le _, by show ds.length ≤ 1000000; omega, by show ps.length ≤ 1000000; omega⟩⟩
      have hRt := right_any (⟨0, 0, 0, 0, 5, 0, [], [], [], ds, ps⟩ : Rec) (⟨⟨none, 0, 0⟩, ⟨none, 0, 0⟩, ⟨none, 0, 0⟩, ⟨Ad, ds.length, cd⟩, ⟨Ap, ps.length, cp⟩⟩ : RecS) w9 hOwn.is
      have HO := Lib.hid hOwn
      unfold recC at hRt
      simp only at hRt
      clear hOwn y0 y1 y2 y3 y4 y5 y6 y7 y8 y9 y10 yf
      obtain ⟨y0, y1, y2, y3, y4, y5, y6, y7, y8, y9, y10⟩ := RecAt.of_blk (R := Rec.zero) (S := RecS.nil) RB9.out
      simp only [Rec.zero, RecS.nil, Sl.nil] at y0 y1 y2 y3 y4 y5 y6 y7 y8 y9 y10
      cases hrr : rightR (⟨0, 0, 0, 0, 5, 0, [], [], [], ds, ps⟩ : Rec) with
      | false =>
        rw [hrr] at hRt
        refine hRt.mono ?_
        rintro e wq ⟨rfl, tq⟩
        have TQ := Lib.hid (T9.out.and_ tq)
        have RBQ := Lib.hid (RB9.out.turned tq (fun e => e))
        have XQ := Lib.hid (X9.out.turned tq (fun e => e))
        have HOQ := Lib.hid (HO.out.fresh tq)
        clear y0 y1 y2 y3 y4 y5 y6 y7 y8 y9 y10
        clear x0 x1 x2 x3 x4 x5 x6 x7 x8 x9 x10 xf
        obtain ⟨y0, y1, y2, y3, y4, y5, y6, y7, y8, y9, y10⟩ := RecAt.of_blk (R := Rec.zero) (S := RecS.nil) RBQ.out
        simp only [Rec.zero, RecS.nil, Sl.nil] at y0 y1 y2 y3 y4 y5 y6 y7 y8 y9 y10
        have yf := RBQ.out.frozen
        obtain ⟨x0, x1, x2, x3, x4, x5, x6, x7, x8, x9, x10⟩ := RecAt.of_blk (R := (⟨0, 0, 0, 0, 5, 0, [], [], [], ds, ps⟩ : Rec)) (S := (⟨⟨none, 0, 0⟩, ⟨none, 0, 0⟩, ⟨none, 0, 0⟩, ⟨Ad, ds.length, cd⟩, ⟨Ap, ps.length, cp⟩⟩ : RecS)) XQ.out
        simp only at x0 x1 x2 x3 x4 x5 x6 x7 x8 x9 x10
        have xf := XQ.out.frozen
        have hno := Lib.hid (show getR zs = none by rw [HG.out, hse]; exact fin_no hrr)
        clear hrr HG tq hRt
        go_wp2_with fail
        obtain ⟨wz, hwz, XZ, tZ⟩ := fin11 (.int .i64 0) (.int .i64 0) (.int .i64 0) (.int .i64 0) (.int .u8 0) (.int .i64 0) (.slice none 0 0) (.slice none 0 0) (.slice none 0 0) (.slice none 0 0) (.slice none 0 0) RBQ.out
        rw [hwz]
        clear hwz
        have TZ := TQ.out.trans (W := fun _ => False) tZ (fun _ e => e) (fun i e => .inr (by omega))
        obtain ⟨e0, e1, e2, e3, e4, e5, e6, e7, e8, e9, e10⟩ := XZ.cells11
        refine bodyPost_ret (v := .tuple #[.agg #[.int .i64 0, .int .i64 0, .int .i64 0, .int .i64 0, .int .u8 0, .int .i64 0, .slice none 0 0, .slice none 0 0, .slice none 0 0, .slice none 0 0, .slice none 0 0], .int .i64 0, .int .i64 4]) (by simp [results, Tryd.results51, go_sem, e0, e1, e2, e3, e4, e5, e6, e7, e8, e9, e10]) rfl ?_
        exact .inr ⟨hno.out, rfl, TZ⟩
      | true =>
        rw [hrr] at hRt
        refine hRt.mono ?_
        rintro e wq ⟨rfl, tq⟩
        have TQ := Lib.hid (T9.out.and_ tq)
        have RBQ := Lib.hid (RB9.out.turned tq (fun e => e))
        have XQ := Lib.hid (X9.out.turned tq (fun e => e))
        have HOQ := Lib.hid (HO.out.fresh tq)
        clear y0 y1 y2 y3 y4 y5 y6 y7 y8 y9 y10
        clear x0 x1 x2 x3 x4 x5 x6 x7 x8 x9 x10 xf
        obtain ⟨y0, y1, y2, y3, y4, y5, y6, y7, y8, y9, y10⟩ := RecAt.of_blk (R := Rec.zero) (S := RecS.nil) RBQ.out
        simp only [Rec.zero, RecS.nil, Sl.nil] at y0 y1 y2 y3 y4 y5 y6 y7 y8 y9 y10
        have yf := RBQ.out.frozen
        obtain ⟨x0, x1, x2, x3, x4, x5, x6, x7, x8, x9, x10⟩ := RecAt.of_blk (R := (⟨0, 0, 0, 0, 5, 0, [], [], [], ds, ps⟩ : Rec)) (S := (⟨⟨none, 0, 0⟩, ⟨none, 0, 0⟩, ⟨none, 0, 0⟩, ⟨Ad, ds.length, cd⟩, ⟨Ap, ps.length, cp⟩⟩ : RecS)) XQ.out
        simp only at x0 x1 x2 x3 x4 x5 x6 x7 x8 x9 x10
        have xf := XQ.out.frozen
        have hys := Lib.hid (show getR zs = some ((⟨0, 0, 0, 0, 5, 0, [], [], [], ds, ps⟩ : Rec), 2 + m) by rw [HG.out, hse]; exact fin_yes hrr)
        clear hrr HG tq hRt
        go_wp2_with fail
        obtain ⟨wz, hwz, XZ, tZ⟩ := fin11 (.int .i64 0) (.int .i64 0) (.int .i64 0) (.int .i64 0) (.int .u8 5) (.int .i64 0) (.slice none 0 0) (.slice none 0 0) (.slice none 0 0) (.slice Ad ds.length cd) (.slice Ap ps.length cp) RBQ.out
        rw [hwz]
        clear hwz
        have TZ := TQ.out.trans (W := fun _ => False) tZ (fun _ e => e) (fun i e => .inr (by omega))
        obtain ⟨e0, e1, e2, e3, e4, e5, e6, e7, e8, e9, e10⟩ := XZ.cells11
        refine bodyPost_ret (v := .tuple #[.agg #[.int .i64 0, .int .i64 0, .int .i64 0, .int .i64 0, .int .u8 5, .int .i64 0, .slice none 0 0, .slice none 0 0, .slice none 0 0, .slice Ad ds.length cd, .slice Ap ps.length cp], .int .i64 (2 + (m : Int)), .int .i64 0]) (by simp [results, Tryd.results51, go_sem, e0, e1, e2, e3, e4, e5, e6, e7, e8, e9, e10]) rfl ?_
        have HZ : RecOwn wz w.heap.size (⟨0, 0, 0, 0, 5, 0, [], [], [], ds, ps⟩ : Rec) (⟨⟨none, 0, 0⟩, ⟨none, 0, 0⟩, ⟨none, 0, 0⟩, ⟨Ad, ds.length, cd⟩, ⟨Ap, ps.length, cp⟩⟩ : RecS) := HOQ.out.moved tZ (fun i e => by omega) RBQ.out (by decide) (by decide) (by decide)
        exact .inl ⟨_, 2 + m, (⟨⟨none, 0, 0⟩, ⟨none, 0, 0⟩, ⟨none, 0, 0⟩, ⟨Ad, ds.length, cd⟩, ⟨Ap, ps.length, cp⟩⟩ : RecS), hys.out, by rw [Int.natCast_add]; rfl, HZ, TZ⟩
set_option maxRecDepth 100000 in
set_option maxHeartbeats 1000000 in
theorem get_1 (A : Option Addr) (n c : Nat) (zs : List Int) (w : World) (h : BytS w A n c zs) (hb : ∀ z ∈ zs, isByte z) (hnc : n ≤ c) (hc : c ≤ maxLen) (hk : kindOf zs = 1) : Calls Tryd.prog 51 #[.slice A n c] w (RGet zs w) := by
  have hbS : ∀ ys, (some zs : Option (List Int)) = some ys → ∀ y ∈ ys, isByte y := fun ys e y hy => by injection e with e; subst e; exact hb y hy
  obtain ⟨m, hm, hm2⟩ := numS2_nat (some zs) hbS
  have hG : getR zs = finR m (restS (kindOf zs) (numS 1 (inS m (numS 2 (some zs)).2)).2) := by
    unfold getR getS kindOf
    rw [hm, Int.toNat_natCast]
  have hkd : (numS 1 (inS m (numS 2 (some zs)).2)).1 = kindOf zs := by
    unfold kindOf
    rw [hm, Int.toNat_natCast]
  obtain ⟨kk, hkk, hk255⟩ := numS1_nat (inS m (numS 2 (some zs)).2) (inS_bytes (numS_bytes hbS))
  rw [hkd] at hkk
  rw [hk] at hG
  clear hkk hk255
  have hcm := hc
  unfold maxLen at hcm
  have hpl : 0 < n → PlA (w.heap.size + 1) A := fun h0 => by
    obtain ⟨b, off, e, hcl⟩ := h.cell h0
    have := World.block_lt_of_cell? w ⟨b, off + 0, none⟩ (hcl 0 h0)
    exact .inr ⟨b, off, e, by simp at this; omega⟩
  have hRB := (Blk.new w 39 #[.int .i64 0, .int .i64 0, .int .i64 0, .int .i64 0, .int .u8 0, .int .i64 0, .slice none 0 0, .slice none 0 0, .slice none 0 0, .slice none 0 0, .slice none 0 0]).alloc (.cells #[.slice A n c, .bool false] 135)
  have hRd : RdBlk ((w.alloc (.cells #[.int .i64 0, .int .i64 0, .int .i64 0, .int .i64 0, .int .u8 0, .int .i64 0, .slice none 0 0, .slice none 0 0, .slice none 0 0, .slice none 0 0, .slice none 0 0] 39)).alloc (.cells #[.slice A n c, .bool false] 135)) (w.heap.size + 1) A n c false := Blk.new_at _ _ _ (by simp)
  have hT := ((Turned.refl (fun _ => False) w).alloc (.cells #[.int .i64 0, .int .i64 0, .int .i64 0, .int .i64 0, .int .u8 0, .int .i64 0, .slice none 0 0, .slice none 0 0, .slice none 0 0, .slice none 0 0, .slice none 0 0] 39)).alloc (.cells #[.slice A n c, .bool false] 135)
  have hs0 : ((w.alloc (.cells #[.int .i64 0, .int .i64 0, .int .i64 0, .int .i64 0, .int .u8 0, .int .i64 0, .slice none 0 0, .slice none 0 0, .slice none 0 0, .slice none 0 0, .slice none 0 0] 39)).alloc (.cells #[.slice A n c, .bool false] 135)).heap.size = w.heap.size + 2 := by simp
  have hN1 : Calls Tryd.prog 71 #[.pointer (some ⟨w.heap.size + 1, 0, none⟩), .int .i64 (2 : Nat)] ((w.alloc (.cells #[.int .i64 0, .int .i64 0, .int .i64 0, .int .i64 0, .int .u8 0, .int .i64 0, .slice none 0 0, .slice none 0 0, .slice none 0 0, .slice none 0 0, .slice none 0 0] 39)).alloc (.cells #[.slice A n c, .bool false] 135)) (NumSPost (w.heap.size + 1) 2 (some zs) ((w.alloc (.cells #[.int .i64 0, .int .i64 0, .int .i64 0, .int .i64 0, .int .u8 0, .int .i64 0, .slice none 0 0, .slice none 0 0, .slice none 0 0, .slice none 0 0, .slice none 0 0] 39)).alloc (.cells #[.slice A n c, .bool false] 135))) := by
    rcases Nat.lt_or_ge n 2 with hlt | hge
    · exact number_by _ 2 (some zs) _ (take_short _ A n c 2 false _ hRd (by omega) (by omega) (.inr hlt) (some zs) (takeS_short (by rw [h.len]; exact hlt))) (by omega) hbS
    · exact number_any _ 2 (some zs) _ ⟨A, n, c, hRd, h.turned hT (fun _ _ _ e => e), hnc, hc, hpl (by omega)⟩ (by omega) hbS
  unfold NumSPost at hN1
  rw [hm] at hN1
  have hb1 := Lib.hid (numS_bytes (k := 2) hbS)
  have hN1' := Lib.hid hN1
  have RB0 := Lib.hid hRB
  have T0 := Lib.hid hT
  have HG := Lib.hid hG
  have HKD := Lib.hid hkd
  clear hN1 hRB hRd hT hG hkd hm hpl h hb hbS
  generalize (numS 2 (some zs)).2 = s1 at *
  go_enter Tryd.func51, Tryd.ntmps51
  go_wp2_with fail
  generalize (w.alloc (.cells #[.int .i64 0, .int .i64 0, .int .i64 0, .int .i64 0, .int .u8 0, .int .i64 0, .slice none 0 0, .slice none 0 0, .slice none 0 0, .slice none 0 0, .slice none 0 0] 39)).alloc (.cells #[.slice A n c, .bool false] 135) = w0 at *
  refine hN1'.out.mono ?_
  rintro e w1 ⟨rfl, hR1, t1⟩
  have R1 := Lib.hid hR1
  have T1 := Lib.hid (T0.out.trans (W := fun _ => False) t1 (fun _ e => e) (fun i e => .inr (by omega)))
  have RB1 := Lib.hid (RB0.out.turned t1 (fun e => by omega))
  clear hR1 t1 T0 RB0 hN1'
  go_wp2_with fail
  refine (take_any (w.heap.size + 1) m s1 w1 R1.out (by omega)).mono ?_
  rintro e w2 ⟨A2, n2, c2, rfl, hy2, hnc2, hc2, hp2, hR2, t2⟩
  have R3 := Lib.hid (isRd_in hy2 hnc2 hc2 hp2 hR2)
  obtain ⟨A3, n3, c3, sh3, hq3⟩ := rd_blk hR2
  have q0 : w2.cell? ⟨w.heap.size + 1, 0, none⟩ = some (.slice A3 n3 c3) := hq3.cell 0
  have f0 := hq3.frozen 0
  have t3 := t2.setCell (p := ⟨w.heap.size + 1, 0, none⟩) (.inl rfl) (.slice A2 n2 c2)
  have T3 := Lib.hid (T1.out.trans (W := fun _ => False) t3 (fun _ e => e) (fun i e => .inr (by omega)))
  have RB3 := Lib.hid (RB1.out.turned t3 (fun e => by omega))
  clear hy2 hnc2 hc2 hp2 hR2 t2 t3 hq3 R1 T1 RB1
  go_wp2_with fail
  generalize w2.setCell ⟨w.heap.size + 1, 0, none⟩ (.slice A2 n2 c2) = w3 at *
  have hN3 := number_any (w.heap.size + 1) 1 (inS m s1) w3 R3.out (by omega) (inS_bytes hb1.out)
  unfold NumSPost at hN3
  rw [HKD.out, hk] at hN3
  refine hN3.mono ?_
  rintro e w4 ⟨rfl, hR4, t4⟩
  have R4 := Lib.hid hR4
  have T4 := Lib.hid (T3.out.trans (W := fun _ => False) t4 (fun _ e => e) (fun i e => .inr (by omega)))
  have RB4 := Lib.hid (RB3.out.turned t4 (fun e => by omega))
  have hb4 := Lib.hid (numS_bytes (k := 1) (inS_bytes hb1.out (k := m)))
  clear hR4 t4 T3 RB3 R3 q0 f0 hN3 hb1
  generalize (numS 1 (inS m s1)).2 = s4 at *
  clear HKD
  have hxr := R4.out.lt
  have hwr : w.heap.size < w.heap.size + 1 := by omega
  have HG := Lib.hid (show getR zs = finR m ((⟨0, (numS 8 s4).1, (numS 8 (numS 8 s4).2).1, 0, 1, (numS 2 (numS 8 (numS 8 s4).2).2).1, (rowS (numS 2 (numS 8 (numS 8 s4).2).2).2).1, (rowS (rowS (numS 2 (numS 8 (numS 8 s4).2).2).2).2).1, (rowS (rowS (rowS (numS 2 (numS 8 (numS 8 s4).2).2).2).2).2).1, [], []⟩ : Rec), (rowS (rowS (rowS (numS 2 (numS 8 (numS 8 s4).2).2).2).2).2).2) from HG.out)
  generalize w.heap.size + 1 = r at *
  have H1 := Lib.hid (fun (w' : World) (h : IsRd w' r s4) => number_any r 8 s4 w' h (by omega) hb4.out)
  have hb5 := Lib.hid (numS_bytes (k := 8) hb4.out)
  unfold NumSPost at H1
  generalize (numS 8 s4).1 = work at *
  generalize (numS 8 s4).2 = s5 at *
  clear hb4
  have H2 := Lib.hid (fun (w' : World) (h : IsRd w' r s5) => number_any r 8 s5 w' h (by omega) hb5.out)
  have hb6 := Lib.hid (numS_bytes (k := 8) hb5.out)
  unfold NumSPost at H2
  generalize (numS 8 s5).1 = prev at *
  generalize (numS 8 s5).2 = s6 at *
  clear hb5
  have H3 := Lib.hid (fun (w' : World) (h : IsRd w' r s6) => number_any r 2 s6 w' h (by omega) hb6.out)
  have hb7 := Lib.hid (numS_bytes (k := 2) hb6.out)
  unfold NumSPost at H3
  generalize (numS 2 s6).1 = page at *
  generalize (numS 2 s6).2 = s7 at *
  clear hb6
  have H4 := Lib.hid (fun (w' : World) (h : IsRd w' r s7) => row_any r s7 w' h hb7.out)
  have hb8 := Lib.hid (rowS_bytes hb7.out)
  have hlkey := rowS_len s7 hb7.out
  unfold RowPost at H4
  generalize (rowS s7).1 = key at *
  generalize (rowS s7).2 = s8 at *
  clear hb7
  have H5 := Lib.hid (fun (w' : World) (h : IsRd w' r s8) => row_any r s8 w' h hb8.out)
  have hb9 := Lib.hid (rowS_bytes hb8.out)
  have hlold := rowS_len s8 hb8.out
  unfold RowPost at H5
  generalize (rowS s8).1 = old at *
  generalize (rowS s8).2 = s9 at *
  clear hb8
  have H6 := Lib.hid (fun (w' : World) (h : IsRd w' r s9) => row_any r s9 w' h hb9.out)
  have hb10 := Lib.hid (rowS_bytes hb9.out)
  have hlnew := rowS_len s9 hb9.out
  unfold RowPost at H6
  generalize (rowS s9).1 = new at *
  generalize (rowS s9).2 = s10 at *
  clear hb9
  have X5 := Lib.hid (Blk.new w4 39 (recC (⟨0, 0, 0, 0, 1, 0, [], [], [], [], []⟩ : Rec) (⟨⟨none, 0, 0⟩, ⟨none, 0, 0⟩, ⟨none, 0, 0⟩, ⟨none, 0, 0⟩, ⟨none, 0, 0⟩⟩ : RecS)))
  have t5 := (Turned.refl (fun _ => False) w4).alloc (.cells (recC (⟨0, 0, 0, 0, 1, 0, [], [], [], [], []⟩ : Rec) (⟨⟨none, 0, 0⟩, ⟨none, 0, 0⟩, ⟨none, 0, 0⟩, ⟨none, 0, 0⟩, ⟨none, 0, 0⟩⟩ : RecS)) 39)
  have hsz5 : w4.heap.size + 1 ≤ (w4.alloc (.cells (recC (⟨0, 0, 0, 0, 1, 0, [], [], [], [], []⟩ : Rec) (⟨⟨none, 0, 0⟩, ⟨none, 0, 0⟩, ⟨none, 0, 0⟩, ⟨none, 0, 0⟩, ⟨none, 0, 0⟩⟩ : RecS)) 39)).heap.size := by simp
  have R5 := Lib.hid (R4.out.fresh t5)
  have T5 := Lib.hid (T4.out.and_ t5)
  have RB5 := Lib.hid (RB4.out.turned t5 (fun e => e))
  clear t5 R4 T4 RB4
  unfold recC at X5 hsz5 R5 T5 RB5
  simp only at X5 hsz5 R5 T5 RB5
  go_wp2_with fail
  generalize w4.alloc (.cells #[.int .i64 0, .int .i64 0, .int .i64 0, .int .i64 0, .int .u8 1, .int .i64 0, .slice none 0 0, .slice none 0 0, .slice none 0 0, .slice none 0 0, .slice none 0 0] 39) = w5 at *
  generalize w4.heap.size = xb at *
  have hne1 : ¬ (r = xb) := by omega
  have hne2 : ¬ (xb = r) := by omega
  have hne3 : ¬ (w.heap.size = xb) := by omega
  have hne4 : ¬ (xb = w.heap.size) := by omega
  have hne5 : ¬ (w.heap.size = r) := by omega
  have hne6 : ¬ (r = w.heap.size) := by omega
  have RB5 : Hid (Blk w5 w.heap.size 39 (recC Rec.zero RecS.nil)) := RB5
  obtain ⟨x0, x1, x2, x3, x4, x5, x6, x7, x8, x9, x10⟩ := RecAt.of_blk (R := (⟨0, 0, 0, 0, 1, 0, [], [], [], [], []⟩ : Rec)) (S := (⟨⟨none, 0, 0⟩, ⟨none, 0, 0⟩, ⟨none, 0, 0⟩, ⟨none, 0, 0⟩, ⟨none, 0, 0⟩⟩ : RecS)) X5.out
  simp only at x0 x1 x2 x3 x4 x5 x6 x7 x8 x9 x10
  have xf := X5.out.frozen
  refine (H1.out _ R5.out).mono ?_
  rintro e w6 ⟨rfl, hR, t⟩
  have R6 := Lib.hid hR
  have T6 := Lib.hid (T5.out.trans (W := fun _ => False) t (fun _ e => e) (fun i e => .inr (by omega)))
  have RB6 := Lib.hid (RB5.out.turned t (fun e => by omega))
  have X6 := Lib.hid (X5.out.turned t (fun e => by omega))
  have hsz6 := Nat.le_trans hsz5 t.size
  have hmo6 := t.size
  clear hR t R5 T5 RB5 X5
  clear x0 x1 x2 x3 x4 x5 x6 x7 x8 x9 x10 xf
  obtain ⟨x0, x1, x2, x3, x4, x5, x6, x7, x8, x9, x10⟩ := RecAt.of_blk (R := (⟨0, 0, 0, 0, 1, 0, [], [], [], [], []⟩ : Rec)) (S := (⟨⟨none, 0, 0⟩, ⟨none, 0, 0⟩, ⟨none, 0, 0⟩, ⟨none, 0, 0⟩, ⟨none, 0, 0⟩⟩ : RecS)) X6.out
  simp only at x0 x1 x2 x3 x4 x5 x6 x7 x8 x9 x10
  have xf := X6.out.frozen
  go_wp2_with fail
  refine (H2.out _ R6.out).mono ?_
  rintro e w7 ⟨rfl, hR, t⟩
  have R7 := Lib.hid hR
  have T7 := Lib.hid (T6.out.trans (W := fun _ => False) t (fun _ e => e) (fun i e => .inr (by omega)))
  have RB7 := Lib.hid (RB6.out.turned t (fun e => by omega))
  have X7 := Lib.hid (X6.out.turned t (fun e => by omega))
  have hsz7 := Nat.le_trans hsz6 t.size
  have hmo7 := t.size
  clear hR t R6 T6 RB6 X6
  clear x0 x1 x2 x3 x4 x5 x6 x7 x8 x9 x10 xf
  obtain ⟨x0, x1, x2, x3, x4, x5, x6, x7, x8, x9, x10⟩ := RecAt.of_blk (R := (⟨0, 0, 0, 0, 1, 0, [], [], [], [], []⟩ : Rec)) (S := (⟨⟨none, 0, 0⟩, ⟨none, 0, 0⟩, ⟨none, 0, 0⟩, ⟨none, 0, 0⟩, ⟨none, 0, 0⟩⟩ : RecS)) X7.out
  simp only at x0 x1 x2 x3 x4 x5 x6 x7 x8 x9 x10
  have xf := X7.out.frozen
  go_wp2_with fail
  have tS := (((Turned.refl (fun i => i = xb) w7).setCell (p := ⟨xb, 1, none⟩) (.inl rfl) (.int .i64 work)).setCell (p := ⟨xb, 2, none⟩) (.inl rfl) (.int .i64 prev))
  have X8 : Hid (Blk ((((w7).setCell ⟨xb, 1, none⟩ (.int .i64 work))).setCell ⟨xb, 2, none⟩ (.int .i64 prev)) xb 39 (recC (⟨0, work, prev, 0, 1, 0, [], [], [], [], []⟩ : Rec) (⟨⟨none, 0, 0⟩, ⟨none, 0, 0⟩, ⟨none, 0, 0⟩, ⟨none, 0, 0⟩, ⟨none, 0, 0⟩⟩ : RecS))) := Lib.hid ((X7.out.set_ 1 (.int .i64 work)).set_ 2 (.int .i64 prev))
  have R8 := Lib.hid (R7.out.keep tS (fun i e => by omega))
  have T8 := Lib.hid (T7.out.trans (W := fun _ => False) tS (fun _ e => e) (fun i e => .inr (by omega)))
  have RB8 := Lib.hid (RB7.out.turned tS (fun e => by omega))
  have hsz8 := Nat.le_trans hsz7 tS.size
  clear tS X7 R7 T7 RB7
  generalize ((((w7).setCell ⟨xb, 1, none⟩ (.int .i64 work))).setCell ⟨xb, 2, none⟩ (.int .i64 prev)) = w8 at *
  clear x0 x1 x2 x3 x4 x5 x6 x7 x8 x9 x10 xf
  obtain ⟨x0, x1, x2, x3, x4, x5, x6, x7, x8, x9, x10⟩ := RecAt.of_blk (R := (⟨0, work, prev, 0, 1, 0, [], [], [], [], []⟩ : Rec)) (S := (⟨⟨none, 0, 0⟩, ⟨none, 0, 0⟩, ⟨none, 0, 0⟩, ⟨none, 0, 0⟩, ⟨none, 0, 0⟩⟩ : RecS)) X8.out
  simp only at x0 x1 x2 x3 x4 x5 x6 x7 x8 x9 x10
  have xf := X8.out.frozen
  refine (H3.out _ R8.out).mono ?_
  rintro e w9 ⟨rfl, hR, t⟩
  have R9 := Lib.hid hR
  have T9 := Lib.hid (T8.out.trans (W := fun _ => False) t (fun _ e => e) (fun i e => .inr (by omega)))
  have RB9 := Lib.hid (RB8.out.turned t (fun e => by omega))
  have X9 := Lib.hid (X8.out.turned t (fun e => by omega))
  have hsz9 := Nat.le_trans hsz8 t.size
  have hmo9 := t.size
  clear hR t R8 T8 RB8 X8
  clear x0 x1 x2 x3 x4 x5 x6 x7 x8 x9 x10 xf
  obtain ⟨x0, x1, x2, x3, x4, x5, x6, x7, x8, x9, x10⟩ := RecAt.of_blk (R := (⟨0, work, prev, 0, 1, 0, [], [], [], [], []⟩ : Rec)) (S := (⟨⟨none, 0, 0⟩, ⟨none, 0, 0⟩, ⟨none, 0, 0⟩, ⟨none, 0, 0⟩, ⟨none, 0, 0⟩⟩ : RecS)) X9.out
  simp only at x0 x1 x2 x3 x4 x5 x6 x7 x8 x9 x10
  have xf := X9.out.frozen
  go_wp2_with fail
  have tS := ((Turned.refl (fun i => i = xb) w9).setCell (p := ⟨xb, 5, none⟩) (.inl rfl) (.int .i64 page))
  have X10 : Hid (Blk ((w9).setCell ⟨xb, 5, none⟩ (.int .i64 page)) xb 39 (recC (⟨0, work, prev, 0, 1, page, [], [], [], [], []⟩ : Rec) (⟨⟨none, 0, 0⟩, ⟨none, 0, 0⟩, ⟨none, 0, 0⟩, ⟨none, 0, 0⟩, ⟨none, 0, 0⟩⟩ : RecS))) := Lib.hid (X9.out.set_ 5 (.int .i64 page))
  have R10 := Lib.hid (R9.out.keep tS (fun i e => by omega))
  have T10 := Lib.hid (T9.out.trans (W := fun _ => False) tS (fun _ e => e) (fun i e => .inr (by omega)))
  have RB10 := Lib.hid (RB9.out.turned tS (fun e => by omega))
  have hsz10 := Nat.le_trans hsz9 tS.size
  clear tS X9 R9 T9 RB9
  generalize ((w9).setCell ⟨xb, 5, none⟩ (.int .i64 page)) = w10 at *
  clear x0 x1 x2 x3 x4 x5 x6 x7 x8 x9 x10 xf
  obtain ⟨x0, x1, x2, x3, x4, x5, x6, x7, x8, x9, x10⟩ := RecAt.of_blk (R := (⟨0, work, prev, 0, 1, page, [], [], [], [], []⟩ : Rec)) (S := (⟨⟨none, 0, 0⟩, ⟨none, 0, 0⟩, ⟨none, 0, 0⟩, ⟨none, 0, 0⟩, ⟨none, 0, 0⟩⟩ : RecS)) X10.out
  simp only at x0 x1 x2 x3 x4 x5 x6 x7 x8 x9 x10
  have xf := X10.out.frozen
  refine (H4.out _ R10.out).mono ?_
  rintro e w11 ⟨Ak, ck, rfl, ow, ob, hR, t⟩
  have owk := Lib.hid ow
  have owkB := Lib.hid (fun g (e : Ak = some ⟨g, 0, none⟩) => (show xb < g by have := ob g e; omega))
  have owkS := Lib.hid (fun g (e : Ak = some ⟨g, 0, none⟩) => (show w10.heap.size ≤ g ∧ g < w11.heap.size from ⟨ob g e, ow.lt e⟩))
  clear ow ob
  have R11 := Lib.hid hR
  have T11 := Lib.hid (T10.out.trans (W := fun _ => False) t (fun _ e => e) (fun i e => .inr (by omega)))
  have RB11 := Lib.hid (RB10.out.turned t (fun e => by omega))
  have X11 := Lib.hid (X10.out.turned t (fun e => by omega))
  have hsz11 := Nat.le_trans hsz10 t.size
  have hmo11 := t.size
  clear hR t R10 T10 RB10 X10
  clear x0 x1 x2 x3 x4 x5 x6 x7 x8 x9 x10 xf
  obtain ⟨x0, x1, x2, x3, x4, x5, x6, x7, x8, x9, x10⟩ := RecAt.of_blk (R := (⟨0, work, prev, 0, 1, page, [], [], [], [], []⟩ : Rec)) (S := (⟨⟨none, 0, 0⟩, ⟨none, 0, 0⟩, ⟨none, 0, 0⟩, ⟨none, 0, 0⟩, ⟨none, 0, 0⟩⟩ : RecS)) X11.out
  simp only at x0 x1 x2 x3 x4 x5 x6 x7 x8 x9 x10
  have xf := X11.out.frozen
  go_wp2_with fail
  refine (H5.out _ R11.out).mono ?_
  rintro e w12 ⟨Ao, co, rfl, ow, ob, hR, t⟩
  have owo := Lib.hid ow
  have owoB := Lib.hid (fun g (e : Ao = some ⟨g, 0, none⟩) => (show xb < g by have := ob g e; omega))
  have owoS := Lib.hid (fun g (e : Ao = some ⟨g, 0, none⟩) => (show w11.heap.size ≤ g ∧ g < w12.heap.size from ⟨ob g e, ow.lt e⟩))
  clear ow ob
  have R12 := Lib.hid hR
  have T12 := Lib.hid (T11.out.trans (W := fun _ => False) t (fun _ e => e) (fun i e => .inr (by omega)))
  have RB12 := Lib.hid (RB11.out.turned t (fun e => by omega))
  have X12 := Lib.hid (X11.out.turned t (fun e => by omega))
  have hsz12 := Nat.le_trans hsz11 t.size
  have hmo12 := t.size
  have owk := Lib.hid (owk.out.turned t (fun g e e2 => by have := owkB.out g e; omega))
  clear hR t R11 T11 RB11 X11
  clear x0 x1 x2 x3 x4 x5 x6 x7 x8 x9 x10 xf
  obtain ⟨x0, x1, x2, x3, x4, x5, x6, x7, x8, x9, x10⟩ := RecAt.of_blk (R := (⟨0, work, prev, 0, 1, page, [], [], [], [], []⟩ : Rec)) (S := (⟨⟨none, 0, 0⟩, ⟨none, 0, 0⟩, ⟨none, 0, 0⟩, ⟨none, 0, 0⟩, ⟨none, 0, 0⟩⟩ : RecS)) X12.out
  simp only at x0 x1 x2 x3 x4 x5 x6 x7 x8 x9 x10
  have xf := X12.out.frozen
  go_wp2_with fail
  refine (H6.out _ R12.out).mono ?_
  rintro e w13 ⟨An, cn, rfl, ow, ob, hR, t⟩
  have own := Lib.hid ow
  have ownB := Lib.hid (fun g (e : An = some ⟨g, 0, none⟩) => (show xb < g by have := ob g e; omega))
  have ownS := Lib.hid (fun g (e : An = some ⟨g, 0, none⟩) => (show w12.heap.size ≤ g ∧ g < w13.heap.size from ⟨ob g e, ow.lt e⟩))
  clear ow ob
  have R13 := Lib.hid hR
  have T13 := Lib.hid (T12.out.trans (W := fun _ => False) t (fun _ e => e) (fun i e => .inr (by omega)))
  have RB13 := Lib.hid (RB12.out.turned t (fun e => by omega))
  have X13 := Lib.hid (X12.out.turned t (fun e => by omega))
  have hsz13 := Nat.le_trans hsz12 t.size
  have hmo13 := t.size
  have owk := Lib.hid (owk.out.turned t (fun g e e2 => by have := owkB.out g e; omega))
  have owo := Lib.hid (owo.out.turned t (fun g e e2 => by have := owoB.out g e; omega))
  clear hR t R12 T12 RB12 X12
  clear x0 x1 x2 x3 x4 x5 x6 x7 x8 x9 x10 xf
  obtain ⟨x0, x1, x2, x3, x4, x5, x6, x7, x8, x9, x10⟩ := RecAt.of_blk (R := (⟨0, work, prev, 0, 1, page, [], [], [], [], []⟩ : Rec)) (S := (⟨⟨none, 0, 0⟩, ⟨none, 0, 0⟩, ⟨none, 0, 0⟩, ⟨none, 0, 0⟩, ⟨none, 0, 0⟩⟩ : RecS)) X13.out
  simp only at x0 x1 x2 x3 x4 x5 x6 x7 x8 x9 x10
  have xf := X13.out.frozen
  cases hse : s10 with
  | none =>
    rw [hse] at R13
    obtain ⟨Ar, nr, cr, r0, r1⟩ := rd_end R13.out
    obtain ⟨y0, y1, y2, y3, y4, y5, y6, y7, y8, y9, y10⟩ := RecAt.of_blk (R := Rec.zero) (S := RecS.nil) RB13.out
    simp only [Rec.zero, RecS.nil, Sl.nil] at y0 y1 y2 y3 y4 y5 y6 y7 y8 y9 y10
    have yf := RB13.out.frozen
    have hno := Lib.hid (show getR zs = none by rw [HG.out, hse]; exact fin_none _ _)
    clear HG
    go_wp2_with fail
    have tS := ((((Turned.refl (fun i => i = xb) w13).setCell (p := ⟨xb, 6, none⟩) (.inl rfl) (.slice Ak key.length ck)).setCell (p := ⟨xb, 7, none⟩) (.inl rfl) (.slice Ao old.length co)).setCell (p := ⟨xb, 8, none⟩) (.inl rfl) (.slice An new.length cn))
    have TS := Lib.hid (T13.out.trans (W := fun _ => False) tS (fun _ e => e) (fun i e => .inr (by omega)))
    have RBS := Lib.hid (RB13.out.turned tS (fun e => by omega))
    generalize (((w13.setCell ⟨xb, 6, none⟩ (.slice Ak key.length ck)).setCell ⟨xb, 7, none⟩ (.slice Ao old.length co)).setCell ⟨xb, 8, none⟩ (.slice An new.length cn)) = ws at *
    obtain ⟨wz, hwz, XZ, tZ⟩ := fin11 (.int .i64 0) (.int .i64 0) (.int .i64 0) (.int .i64 0) (.int .u8 0) (.int .i64 0) (.slice none 0 0) (.slice none 0 0) (.slice none 0 0) (.slice none 0 0) (.slice none 0 0) RBS.out
    rw [hwz]
    clear hwz
    have TZ := TS.out.trans (W := fun _ => False) tZ (fun _ e => e) (fun i e => .inr (by omega))
    obtain ⟨e0, e1, e2, e3, e4, e5, e6, e7, e8, e9, e10⟩ := XZ.cells11
    refine bodyPost_ret (v := .tuple #[.agg #[.int .i64 0, .int .i64 0, .int .i64 0, .int .i64 0, .int .u8 0, .int .i64 0, .slice none 0 0, .slice none 0 0, .slice none 0 0, .slice none 0 0, .slice none 0 0], .int .i64 0, .int .i64 4]) (by simp [results, Tryd.results51, go_sem, e0, e1, e2, e3, e4, e5, e6, e7, e8, e9, e10]) rfl ?_
    exact .inr ⟨hno.out, rfl, TZ⟩
  | some ys =>
    cases ys with
    | cons y ys =>
      rw [hse] at R13
      obtain ⟨Ar, nr, cr, r0, r1, hn1, hn2⟩ := rd_some R13.out
      have hn3 : (0 : Int) < (nr : Int) := by rw [hn1, List.length_cons]; omega
      have hn4 : 0 < nr := by omega
      clear hn1
      obtain ⟨y0, y1, y2, y3, y4, y5, y6, y7, y8, y9, y10⟩ := RecAt.of_blk (R := Rec.zero) (S := RecS.nil) RB13.out
      simp only [Rec.zero, RecS.nil, Sl.nil] at y0 y1 y2 y3 y4 y5 y6 y7 y8 y9 y10
      have yf := RB13.out.frozen
      have hno := Lib.hid (show getR zs = none by rw [HG.out, hse]; exact fin_more _ _ _ _)
      clear HG
      go_wp2_with fail
      have tS := ((((Turned.refl (fun i => i = xb) w13).setCell (p := ⟨xb, 6, none⟩) (.inl rfl) (.slice Ak key.length ck)).setCell (p := ⟨xb, 7, none⟩) (.inl rfl) (.slice Ao old.length co)).setCell (p := ⟨xb, 8, none⟩) (.inl rfl) (.slice An new.length cn))
      have TS := Lib.hid (T13.out.trans (W := fun _ => False) tS (fun _ e => e) (fun i e => .inr (by omega)))
      have RBS := Lib.hid (RB13.out.turned tS (fun e => by omega))
      generalize (((w13.setCell ⟨xb, 6, none⟩ (.slice Ak key.length ck)).setCell ⟨xb, 7, none⟩ (.slice Ao old.length co)).setCell ⟨xb, 8, none⟩ (.slice An new.length cn)) = ws at *
      obtain ⟨wz, hwz, XZ, tZ⟩ := fin11 (.int .i64 0) (.int .i64 0) (.int .i64 0) (.int .i64 0) (.int .u8 0) (.int .i64 0) (.slice none 0 0) (.slice none 0 0) (.slice none 0 0) (.slice none 0 0) (.slice none 0 0) RBS.out
      rw [hwz]
      clear hwz
      have TZ := TS.out.trans (W := fun _ => False) tZ (fun _ e => e) (fun i e => .inr (by omega))
      obtain ⟨e0, e1, e2, e3, e4, e5, e6, e7, e8, e9, e10⟩ := XZ.cells11
      refine bodyPost_ret (v := .tuple #[.agg #[.int .i64 0, .int .i64 0, .int .i64 0, .int .i64 0, .int .u8 0, .int .i64 0, .slice none 0 0, .slice none 0 0, .slice none 0 0, .slice none 0 0, .slice none 0 0], .int .i64 0, .int .i64 4]) (by simp [results, Tryd.results51, go_sem, e0, e1, e2, e3, e4, e5, e6, e7, e8, e9, e10]) rfl ?_
      exact .inr ⟨hno.out, rfl, TZ⟩
    | nil =>
      rw [hse] at R13
      obtain ⟨Ar, nr, cr, r0, r1, hn1, hn2⟩ := rd_some R13.out
      obtain rfl : nr = 0 := hn1
      obtain ⟨y0, y1, y2, y3, y4, y5, y6, y7, y8, y9, y10⟩ := RecAt.of_blk (R := Rec.zero) (S := RecS.nil) RB13.out
      simp only [Rec.zero, RecS.nil, Sl.nil] at y0 y1 y2 y3 y4 y5 y6 y7 y8 y9 y10
      have yf := RB13.out.frozen
      go_wp2_with fail
      have tS := ((((Turned.refl (fun i => i = xb) w13).setCell (p := ⟨xb, 6, none⟩) (.inl rfl) (.slice Ak key.length ck)).setCell (p := ⟨xb, 7, none⟩) (.inl rfl) (.slice Ao old.length co)).setCell (p := ⟨xb, 8, none⟩) (.inl rfl) (.slice An new.length cn))
      have T14 := Lib.hid (T13.out.trans (W := fun _ => False) tS (fun _ e => e) (fun i e => .inr (by omega)))
      have RB14 := Lib.hid (RB13.out.turned tS (fun e => by omega))
      have X14 : Hid (Blk (((w13.setCell ⟨xb, 6, none⟩ (.slice Ak key.length ck)).setCell ⟨xb, 7, none⟩ (.slice Ao old.length co)).setCell ⟨xb, 8, none⟩ (.slice An new.length cn)) xb 39 (recC (⟨0, work, prev, 0, 1, page, key, old, new, [], []⟩ : Rec) (⟨⟨Ak, key.length, ck⟩, ⟨Ao, old.length, co⟩, ⟨An, new.length, cn⟩, ⟨none, 0, 0⟩, ⟨none, 0, 0⟩⟩ : RecS))) := Lib.hid (((X13.out.set_ 6 (.slice Ak key.length ck)).set_ 7 (.slice Ao old.length co)).set_ 8 (.slice An new.length cn))
      have owk := Lib.hid (owk.out.turned tS (fun g e e2 => owk.out.blk X13.out (by decide) e e2))
      have owo := Lib.hid (owo.out.turned tS (fun g e e2 => owo.out.blk X13.out (by decide) e e2))
      have own := Lib.hid (own.out.turned tS (fun g e e2 => own.out.blk X13.out (by decide) e e2))
      generalize (((w13.setCell ⟨xb, 6, none⟩ (.slice Ak key.length ck)).setCell ⟨xb, 7, none⟩ (.slice Ao old.length co)).setCell ⟨xb, 8, none⟩ (.slice An new.length cn)) = w14 at *
      clear tS X13 T13 RB13
      have hOwn : RecOwn w14 w.heap.size (⟨0, work, prev, 0, 1, page, key, old, new, [], []⟩ : Rec) (⟨⟨Ak, key.length, ck⟩, ⟨Ao, old.length, co⟩, ⟨An, new.length, cn⟩, ⟨none, 0, 0⟩, ⟨none, 0, 0⟩⟩ : RecS) := ⟨owk.out, owo.out, own.out, OwnE.nil _ _ _, OwnE.nil _ _ _, (fun g e => by have := owkB.out g e; omega), (fun g e => by have := owoB.out g e; omega), (fun g e => by have := ownB.out g e; omega), (fun g e => by cases e), (fun g e => by cases e), (fun g e e2 => by have h1 := owkS.out g e; have h2 := owoS.out g e2; omega), (fun g e e2 => by have h1 := owkS.out g e; have h2 := ownS.out g e2; omega), (fun g e e2 => by have h1 := owoS.out g e; have h2 := ownS.out g e2; omega), ⟨by show key.length ≤ 1000000; omega, by show old.length ≤ 1000000; omega, by show new.length ≤ 1000000; omega, Nat.zero_le _, Nat.zero_le _⟩⟩
      have hRt := right_any (⟨0, work, prev, 0, 1, page, key, old, new, [], []⟩ : Rec) (⟨⟨Ak, key.length, ck⟩, ⟨Ao, old.length, co⟩, ⟨An, new.length, cn⟩, ⟨none, 0, 0⟩, ⟨none, 0, 0⟩⟩ : RecS) w14 hOwn.is
      have HO := Lib.hid hOwn
      unfold recC at hRt
      simp only at hRt
      clear hOwn y0 y1 y2 y3 y4 y5 y6 y7 y8 y9 y10 yf
      obtain ⟨y0, y1, y2, y3, y4, y5, y6, y7, y8, y9, y10⟩ := RecAt.of_blk (R := Rec.zero) (S := RecS.nil) RB14.out
      simp only [Rec.zero, RecS.nil, Sl.nil] at y0 y1 y2 y3 y4 y5 y6 y7 y8 y9 y10
      cases hrr : rightR (⟨0, work, prev, 0, 1, page, key, old, new, [], []⟩ : Rec) with
      | false =>
        rw [hrr] at hRt
        refine hRt.mono ?_
        rintro e wq ⟨rfl, tq⟩
        have TQ := Lib.hid (T14.out.and_ tq)
        have RBQ := Lib.hid (RB14.out.turned tq (fun e => e))
        have XQ := Lib.hid (X14.out.turned tq (fun e => e))
        have HOQ := Lib.hid (HO.out.fresh tq)
        clear y0 y1 y2 y3 y4 y5 y6 y7 y8 y9 y10
        clear x0 x1 x2 x3 x4 x5 x6 x7 x8 x9 x10 xf
        obtain ⟨y0, y1, y2, y3, y4, y5, y6, y7, y8, y9, y10⟩ := RecAt.of_blk (R := Rec.zero) (S := RecS.nil) RBQ.out
        simp only [Rec.zero, RecS.nil, Sl.nil] at y0 y1 y2 y3 y4 y5 y6 y7 y8 y9 y10
        have yf := RBQ.out.frozen
        obtain ⟨x0, x1, x2, x3, x4, x5, x6, x7, x8, x9, x10⟩ := RecAt.of_blk (R := (⟨0, work, prev, 0, 1, page, key, old, new, [], []⟩ : Rec)) (S := (⟨⟨Ak, key.length, ck⟩, ⟨Ao, old.length, co⟩, ⟨An, new.length, cn⟩, ⟨none, 0, 0⟩, ⟨none, 0, 0⟩⟩ : RecS)) XQ.out
        simp only at x0 x1 x2 x3 x4 x5 x6 x7 x8 x9 x10
        have xf := XQ.out.frozen
        have hno := Lib.hid (show getR zs = none by rw [HG.out, hse]; exact fin_no hrr)
        clear hrr HG tq hRt
        go_wp2_with fail
        obtain ⟨wz, hwz, XZ, tZ⟩ := fin11 (.int .i64 0) (.int .i64 0) (.int .i64 0) (.int .i64 0) (.int .u8 0) (.int .i64 0) (.slice none 0 0) (.slice none 0 0) (.slice none 0 0) (.slice none 0 0) (.slice none 0 0) RBQ.out
        rw [hwz]
        clear hwz
        have TZ := TQ.out.trans (W := fun _ => False) tZ (fun _ e => e) (fun i e => .inr (by omega))
        obtain ⟨e0, e1, e2, e3, e4, e5, e6, e7, e8, e9, e10⟩ := XZ.cells11
        refine bodyPost_ret (v := .tuple #[.agg #[.int .i64 0, .int .i64 0, .int .i64 0, .int .i64 0, .int .u8 0, .int .i64 0, .slice none 0 0, .slice none 0 0, .slice none 0 0, .slice none 0 0, .slice none 0 0], .int .i64 0, .int .i64 4]) (by simp [results, Tryd.results51, go_sem, e0, e1, e2, e3, e4, e5, e6, e7, e8, e9, e10]) rfl ?_
        exact .inr ⟨hno.out, rfl, TZ⟩
      | true =>
        rw [hrr] at hRt
        refine hRt.mono ?_
        rintro e wq ⟨rfl, tq⟩
        have TQ := Lib.hid (T14.out.and_ tq)
        have RBQ := Lib.hid (RB14.out.turned tq (fun e => e))
        have XQ := Lib.hid (X14.out.turned tq (fun e => e))
        have HOQ := Lib.hid (HO.out.fresh tq)
        clear y0 y1 y2 y3 y4 y5 y6 y7 y8 y9 y10
        clear x0 x1 x2 x3 x4 x5 x6 x7 x8 x9 x10 xf
        obtain ⟨y0, y1, y2, y3, y4, y5, y6, y7, y8, y9, y10⟩ := RecAt.of_blk (R := Rec.zero) (S := RecS.nil) RBQ.out
        simp only [Rec.zero, RecS.nil, Sl.nil] at y0 y1 y2 y3 y4 y5 y6 y7 y8 y9 y10
        have yf := RBQ.out.frozen
        obtain ⟨x0, x1, x2, x3, x4, x5, x6, x7, x8, x9, x10⟩ := RecAt.of_blk (R := (⟨0, work, prev, 0, 1, page, key, old, new, [], []⟩ : Rec)) (S := (⟨⟨Ak, key.length, ck⟩, ⟨Ao, old.length, co⟩, ⟨An, new.length, cn⟩, ⟨none, 0, 0⟩, ⟨none, 0, 0⟩⟩ : RecS)) XQ.out
        simp only at x0 x1 x2 x3 x4 x5 x6 x7 x8 x9 x10
        have xf := XQ.out.frozen
        have hys := Lib.hid (show getR zs = some ((⟨0, work, prev, 0, 1, page, key, old, new, [], []⟩ : Rec), 2 + m) by rw [HG.out, hse]; exact fin_yes hrr)
        clear hrr HG tq hRt
        go_wp2_with fail
        obtain ⟨wz, hwz, XZ, tZ⟩ := fin11 (.int .i64 0) (.int .i64 work) (.int .i64 prev) (.int .i64 0) (.int .u8 1) (.int .i64 page) (.slice Ak key.length ck) (.slice Ao old.length co) (.slice An new.length cn) (.slice none 0 0) (.slice none 0 0) RBQ.out
        rw [hwz]
        clear hwz
        have TZ := TQ.out.trans (W := fun _ => False) tZ (fun _ e => e) (fun i e => .inr (by omega))
        obtain ⟨e0, e1, e2, e3, e4, e5, e6, e7, e8, e9, e10⟩ := XZ.cells11
        refine bodyPost_ret (v := .tuple #[.agg #[.int .i64 0, .int .i64 work, .int .i64 prev, .int .i64 0, .int .u8 1, .int .i64 page, .slice Ak key.length ck, .slice Ao old.length co, .slice An new.length cn, .slice none 0 0, .slice none 0 0], .int .i64 (2 + (m : Int)), .int .i64 0]) (by simp [results, Tryd.results51, go_sem, e0, e1, e2, e3, e4, e5, e6, e7, e8, e9, e10]) rfl ?_
        have HZ : RecOwn wz w.heap.size (⟨0, work, prev, 0, 1, page, key, old, new, [], []⟩ : Rec) (⟨⟨Ak, key.length, ck⟩, ⟨Ao, old.length, co⟩, ⟨An, new.length, cn⟩, ⟨none, 0, 0⟩, ⟨none, 0, 0⟩⟩ : RecS) := HOQ.out.moved tZ (fun i e => by omega) RBQ.out (by decide) (by decide) (by decide)
        exact .inl ⟨_, 2 + m, (⟨⟨Ak, key.length, ck⟩, ⟨Ao, old.length, co⟩, ⟨An, new.length, cn⟩, ⟨none, 0, 0⟩, ⟨none, 0, 0⟩⟩ : RecS), hys.out, by rw [Int.natCast_add]; rfl, HZ, TZ⟩
set_option maxRecDepth 100000 in
set_option maxHeartbeats 1000000 in
theorem get_2 (A : Option Addr) (n c : Nat) (zs : List Int) (w : World) (h : BytS w A n c zs) (hb : ∀ z ∈ zs, isByte z) (hnc : n ≤ c) (hc : c ≤ maxLen) (hk : kindOf zs = 2) : Calls Tryd.prog 51 #[.slice A n c] w (RGet zs w) := by
  have hbS : ∀ ys, (some zs : Option (List Int)) = some ys → ∀ y ∈ ys, isByte y := fun ys e y hy => by injection e with e; subst e; exact hb y hy
  obtain ⟨m, hm, hm2⟩ := numS2_nat (some zs) hbS
  have hG : getR zs = finR m (restS (kindOf zs) (numS 1 (inS m (numS 2 (some zs)).2)).2) := by
    unfold getR getS kindOf
    rw [hm, Int.toNat_natCast]
  have hkd : (numS 1 (inS m (numS 2 (some zs)).2)).1 = kindOf zs := by
    unfold kindOf
    rw [hm, Int.toNat_natCast]
  obtain ⟨kk, hkk, hk255⟩ := numS1_nat (inS m (numS 2 (some zs)).2) (inS_bytes (numS_bytes hbS))
  rw [hkd] at hkk
  rw [hk] at hG
  clear hkk hk255
  have hcm := hc
  unfold maxLen at hcm
  have hpl : 0 < n → PlA (w.heap.size + 1) A := fun h0 => by
    obtain ⟨b, off, e, hcl⟩ := h.cell h0
    have := World.block_lt_of_cell? w ⟨b, off + 0, none⟩ (hcl 0 h0)
    exact .inr ⟨b, off, e, by simp at this; omega⟩
  have hRB := (Blk.new w 39 #[.int .i64 0, .int .i64 0, .int .i64 0, .int .i64 0, .int .u8 0, .int .i64 0, .slice none 0 0, .slice none 0 0, .slice none 0 0, .slice none 0 0, .slice none 0 0]).alloc (.cells #[.slice A n c, .bool false] 135)
  have hRd : RdBlk ((w.alloc (.cells #[.int .i64 0, .int .i64 0, .int .i64 0, .int .i64 0, .int .u8 0, .int .i64 0, .slice none 0 0, .slice none 0 0, .slice none 0 0, .slice none 0 0, .slice none 0 0] 39)).alloc (.cells #[.slice A n c, .bool false] 135)) (w.heap.size + 1) A n c false := Blk.new_at _ _ _ (by simp)
  have hT := ((Turned.refl (fun _ => False) w).alloc (.cells #[.int .i64 0, .int .i64 0, .int .i64 0, .int .i64 0, .int .u8 0, .int .i64 0, .slice none 0 0, .slice none 0 0, .slice none 0 0, .slice none 0 0, .slice none 0 0] 39)).alloc (.cells #[.slice A n c, .bool false] 135)
  have hs0 : ((w.alloc (.cells #[.int .i64 0, .int .i64 0, .int .i64 0, .int .i64 0, .int .u8 0, .int .i64 0, .slice none 0 0, .slice none 0 0, .slice none 0 0, .slice none 0 0, .slice none 0 0] 39)).alloc (.cells #[.slice A n c, .bool false] 135)).heap.size = w.heap.size + 2 := by simp
  have hN1 : Calls Tryd.prog 71 #[.pointer (some ⟨w.heap.size + 1, 0, none⟩), .int .i64 (2 : Nat)] ((w.alloc (.cells #[.int .i64 0, .int .i64 0, .int .i64 0, .int .i64 0, .int .u8 0, .int .i64 0, .slice none 0 0, .slice none 0 0, .slice none 0 0, .slice none 0 0, .slice none 0 0] 39)).alloc (.cells #[.slice A n c, .bool false] 135)) (NumSPost (w.heap.size + 1) 2 (some zs) ((w.alloc (.cells #[.int .i64 0, .int .i64 0, .int .i64 0, .int .i64 0, .int .u8 0, .int .i64 0, .slice none 0 0, .slice none 0 0, .slice none 0 0, .slice none 0 0, .slice none 0 0] 39)).alloc (.cells #[.slice A n c, .bool false] 135))) := by
    rcases Nat.lt_or_ge n 2 with hlt | hge
    · exact number_by _ 2 (some zs) _ (take_short _ A n c 2 false _ hRd (by omega) (by omega) (.inr hlt) (some zs) (takeS_short (by rw [h.len]; exact hlt))) (by omega) hbS
    · exact number_any _ 2 (some zs) _ ⟨A, n, c, hRd, h.turned hT (fun _ _ _ e => e), hnc, hc, hpl (by omega)⟩ (by omega) hbS
  unfold NumSPost at hN1
  rw [hm] at hN1
  have hb1 := Lib.hid (numS_bytes (k := 2) hbS)
  have hN1' := Lib.hid hN1
  have RB0 := Lib.hid hRB
  have T0 := Lib.hid hT
  have HG := Lib.hid hG
  have HKD := Lib.hid hkd
  clear hN1 hRB hRd hT hG hkd hm hpl h hb hbS
  generalize (numS 2 (some zs)).2 = s1 at *
  go_enter Tryd.func51, Tryd.ntmps51
  go_wp2_with fail
  generalize (w.alloc (.cells #[.int .i64 0, .int .i64 0, .int .i64 0, .int .i64 0, .int .u8 0, .int .i64 0, .slice none 0 0, .slice none 0 0, .slice none 0 0, .slice none 0 0, .slice none 0 0] 39)).alloc (.cells #[.slice A n c, .bool false] 135) = w0 at *
  refine hN1'.out.mono ?_
  rintro e w1 ⟨rfl, hR1, t1⟩
  have R1 := Lib.hid hR1
  have T1 := Lib.hid (T0.out.trans (W := fun _ => False) t1 (fun _ e => e) (fun i e => .inr (by omega)))
  have RB1 := Lib.hid (RB0.out.turned t1 (fun e => by omega))
  clear hR1 t1 T0 RB0 hN1'
  go_wp2_with fail
  refine (take_any (w.heap.size + 1) m s1 w1 R1.out (by omega)).mono ?_
  rintro e w2 ⟨A2, n2, c2, rfl, hy2, hnc2, hc2, hp2, hR2, t2⟩
  have R3 := Lib.hid (isRd_in hy2 hnc2 hc2 hp2 hR2)
  obtain ⟨A3, n3, c3, sh3, hq3⟩ := rd_blk hR2
  have q0 : w2.cell? ⟨w.heap.size + 1, 0, none⟩ = some (.slice A3 n3 c3) := hq3.cell 0
  have f0 := hq3.frozen 0
  have t3 := t2.setCell (p := ⟨w.heap.size + 1, 0, none⟩) (.inl rfl) (.slice A2 n2 c2)
  have T3 := Lib.hid (T1.out.trans (W := fun _ => False) t3 (fun _ e => e) (fun i e => .inr (by omega)))
  have RB3 := Lib.hid (RB1.out.turned t3 (fun e => by omega))
  clear hy2 hnc2 hc2 hp2 hR2 t2 t3 hq3 R1 T1 RB1
  go_wp2_with fail
  generalize w2.setCell ⟨w.heap.size + 1, 0, none⟩ (.slice A2 n2 c2) = w3 at *
  have hN3 := number_any (w.heap.size + 1) 1 (inS m s1) w3 R3.out (by omega) (inS_bytes hb1.out)
  unfold NumSPost at hN3
  rw [HKD.out, hk] at hN3
  refine hN3.mono ?_
  rintro e w4 ⟨rfl, hR4, t4⟩
  have R4 := Lib.hid hR4
  have T4 := Lib.hid (T3.out.trans (W := fun _ => False) t4 (fun _ e => e) (fun i e => .inr (by omega)))
  have RB4 := Lib.hid (RB3.out.turned t4 (fun e => by omega))
  have hb4 := Lib.hid (numS_bytes (k := 1) (inS_bytes hb1.out (k := m)))
  clear hR4 t4 T3 RB3 R3 q0 f0 hN3 hb1
  generalize (numS 1 (inS m s1)).2 = s4 at *
  clear HKD
  have hxr := R4.out.lt
  have hwr : w.heap.size < w.heap.size + 1 := by omega
  have HG := Lib.hid (show getR zs = finR m ((⟨0, (numS 8 s4).1, (numS 8 (numS 8 s4).2).1, (numS 8 (numS 8 (numS 8 s4).2).2).1, 2, (numS 2 (numS 8 (numS 8 (numS 8 s4).2).2).2).1, (rowS (numS 2 (numS 8 (numS 8 (numS 8 s4).2).2).2).2).1, (rowS (rowS (numS 2 (numS 8 (numS 8 (numS 8 s4).2).2).2).2).2).1, (rowS (rowS (rowS (numS 2 (numS 8 (numS 8 (numS 8 s4).2).2).2).2).2).2).1, [], []⟩ : Rec), (rowS (rowS (rowS (numS 2 (numS 8 (numS 8 (numS 8 s4).2).2).2).2).2).2).2) from HG.out)
  generalize w.heap.size + 1 = r at *
  have H1 := Lib.hid (fun (w' : World) (h : IsRd w' r s4) => number_any r 8 s4 w' h (by omega) hb4.out)
  have hb5 := Lib.hid (numS_bytes (k := 8) hb4.out)
  unfold NumSPost at H1
  generalize (numS 8 s4).1 = work at *
  generalize (numS 8 s4).2 = s5 at *
  clear hb4
  have H2 := Lib.hid (fun (w' : World) (h : IsRd w' r s5) => number_any r 8 s5 w' h (by omega) hb5.out)
  have hb6 := Lib.hid (numS_bytes (k := 8) hb5.out)
  unfold NumSPost at H2
  generalize (numS 8 s5).1 = prev at *
  generalize (numS 8 s5).2 = s6 at *
  clear hb5
  have H3 := Lib.hid (fun (w' : World) (h : IsRd w' r s6) => number_any r 8 s6 w' h (by omega) hb6.out)
  have hb7 := Lib.hid (numS_bytes (k := 8) hb6.out)
  unfold NumSPost at H3
  generalize (numS 8 s6).1 = next at *
  generalize (numS 8 s6).2 = s7 at *
  clear hb6
  have H4 := Lib.hid (fun (w' : World) (h : IsRd w' r s7) => number_any r 2 s7 w' h (by omega) hb7.out)
  have hb8 := Lib.hid (numS_bytes (k := 2) hb7.out)
  unfold NumSPost at H4
  generalize (numS 2 s7).1 = page at *
  generalize (numS 2 s7).2 = s8 at *
  clear hb7
  have H5 := Lib.hid (fun (w' : World) (h : IsRd w' r s8) => row_any r s8 w' h hb8.out)
  have hb9 := Lib.hid (rowS_bytes hb8.out)
  have hlkey := rowS_len s8 hb8.out
  unfold RowPost at H5
  generalize (rowS s8).1 = key at *
  generalize (rowS s8).2 = s9 at *
  clear hb8
  have H6 := Lib.hid (fun (w' : World) (h : IsRd w' r s9) => row_any r s9 w' h hb9.out)
  have hb10 := Lib.hid (rowS_bytes hb9.out)
  have hlold := rowS_len s9 hb9.out
  unfold RowPost at H6
  generalize (rowS s9).1 = old at *
  generalize (rowS s9).2 = s10 at *
  clear hb9
  have H7 := Lib.hid (fun (w' : World) (h : IsRd w' r s10) => row_any r s10 w' h hb10.out)
  have hb11 := Lib.hid (rowS_bytes hb10.out)
  have hlnew := rowS_len s10 hb10.out
  unfold RowPost at H7
  generalize (rowS s10).1 = new at *
  generalize (rowS s10).2 = s11 at *
  clear hb10
  have X5 := Lib.hid (Blk.new w4 39 (recC (⟨0, 0, 0, 0, 2, 0, [], [], [], [], []⟩ : Rec) (⟨⟨none, 0, 0⟩, ⟨none, 0, 0⟩, ⟨none, 0, 0⟩, ⟨none, 0, 0⟩, ⟨none, 0, 0⟩⟩ : RecS)))
  have t5 := (Turned.refl (fun _ => False) w4).alloc (.cells (recC (⟨0, 0, 0, 0, 2, 0, [], [], [], [], []⟩ : Rec) (⟨⟨none, 0, 0⟩, ⟨none, 0, 0⟩, ⟨none, 0, 0⟩, ⟨none, 0, 0⟩, ⟨none, 0, 0⟩⟩ : RecS)) 39)
  have hsz5 : w4.heap.size + 1 ≤ (w4.alloc (.cells (recC (⟨0, 0, 0, 0, 2, 0, [], [], [], [], []⟩ : Rec) (⟨⟨none, 0, 0⟩, ⟨none, 0, 0⟩, ⟨none, 0, 0⟩, ⟨none, 0, 0⟩, ⟨none, 0, 0⟩⟩ : RecS)) 39)).heap.size := by simp
  have R5 := Lib.hid (R4.out.fresh t5)
  have T5 := Lib.hid (T4.out.and_ t5)
  have RB5 := Lib.hid (RB4.out.turned t5 (fun e => e))
  clear t5 R4 T4 RB4
  unfold recC at X5 hsz5 R5 T5 RB5
  simp only at X5 hsz5 R5 T5 RB5
  go_wp2_with fail
  generalize w4.alloc (.cells #[.int .i64 0, .int .i64 0, .int .i64 0, .int .i64 0, .int .u8 2, .int .i64 0, .slice none 0 0, .slice none 0 0, .slice none 0 0, .slice none 0 0, .slice none 0 0] 39) = w5 at *
  generalize w4.heap.size = xb at *
  have hne1 : ¬ (r = xb) := by omega
  have hne2 : ¬ (xb = r) := by omega
  have hne3 : ¬ (w.heap.size = xb) := by omega
  have hne4 : ¬ (xb = w.heap.size) := by omega
  have hne5 : ¬ (w.heap.size = r) := by omega
  have hne6 : ¬ (r = w.heap.size) := by omega
  have RB5 : Hid (Blk w5 w.heap.size 39 (recC Rec.zero RecS.nil)) := RB5
  obtain ⟨x0, x1, x2, x3, x4, x5, x6, x7, x8, x9, x10⟩ := RecAt.of_blk (R := (⟨0, 0, 0, 0, 2, 0, [], [], [], [], []⟩ : Rec)) (S := (⟨⟨none, 0, 0⟩, ⟨none, 0, 0⟩, ⟨none, 0, 0⟩, ⟨none, 0, 0⟩, ⟨none, 0, 0⟩⟩ : RecS)) X5.out
  simp only at x0 x1 x2 x3 x4 x5 x6 x7 x8 x9 x10
  have xf := X5.out.frozen
  refine (H1.out _ R5.out).mono ?_
  rintro e w6 ⟨rfl, hR, t⟩
  have R6 := Lib.hid hR
  have T6 := Lib.hid (T5.out.trans (W := fun _ => False) t (fun _ e => e) (fun i e => .inr (by omega)))
  have RB6 := Lib.hid (RB5.out.turned t (fun e => by omega))
  have X6 := Lib.hid (X5.out.turned t (fun e => by omega))
  have hsz6 := Nat.le_trans hsz5 t.size
  have hmo6 := t.size
  clear hR t R5 T5 RB5 X5
  clear x0 x1 x2 x3 x4 x5 x6 x7 x8 x9 x10 xf
  obtain ⟨x0, x1, x2, x3, x4, x5, x6, x7, x8, x9, x10⟩ := RecAt.of_blk (R := (⟨0, 0, 0, 0, 2, 0, [], [], [], [], []⟩ : Rec)) (S := (⟨⟨none, 0, 0⟩, ⟨none, 0, 0⟩, ⟨none, 0, 0⟩, ⟨none, 0, 0⟩, ⟨none, 0, 0⟩⟩ : RecS)) X6.out
  simp only at x0 x1 x2 x3 x4 x5 x6 x7 x8 x9 x10
  have xf := X6.out.frozen
  go_wp2_with fail
  refine (H2.out _ R6.out).mono ?_
  rintro e w7 ⟨rfl, hR, t⟩
  have R7 := Lib.hid hR
  have T7 := Lib.hid (T6.out.trans (W := fun _ => False) t (fun _ e => e) (fun i e => .inr (by omega)))
  have RB7 := Lib.hid (RB6.out.turned t (fun e => by omega))
  have X7 := Lib.hid (X6.out.turned t (fun e => by omega))
  have hsz7 := Nat.le_trans hsz6 t.size
  have hmo7 := t.size
  clear hR t R6 T6 RB6 X6
  clear x0 x1 x2 x3 x4 x5 x6 x7 x8 x9 x10 xf
  obtain ⟨x0, x1, x2, x3, x4, x5, x6, x7, x8, x9, x10⟩ := RecAt.of_blk (R := (⟨0, 0, 0, 0, 2, 0, [], [], [], [], []⟩ : Rec)) (S := (⟨⟨none, 0, 0⟩, ⟨none, 0, 0⟩, ⟨none, 0, 0⟩, ⟨none, 0, 0⟩, ⟨none, 0, 0⟩⟩ : RecS)) X7.out
  simp only at x0 x1 x2 x3 x4 x5 x6 x7 x8 x9 x10
  have xf := X7.out.frozen
  go_wp2_with fail
  have tS := (((Turned.refl (fun i => i = xb) w7).setCell (p := ⟨xb, 1, none⟩) (.inl rfl) (.int .i64 work)).setCell (p := ⟨xb, 2, none⟩) (.inl rfl) (.int .i64 prev))
  have X8 : Hid (Blk ((((w7).setCell ⟨xb, 1, none⟩ (.int .i64 work))).setCell ⟨xb, 2, none⟩ (.int .i64 prev)) xb 39 (recC (⟨0, work, prev, 0, 2, 0, [], [], [], [], []⟩ : Rec) (⟨⟨none, 0, 0⟩, ⟨none, 0, 0⟩, ⟨none, 0, 0⟩, ⟨none, 0, 0⟩, ⟨none, 0, 0⟩⟩ : RecS))) := Lib.hid ((X7.out.set_ 1 (.int .i64 work)).set_ 2 (.int .i64 prev))
  have R8 := Lib.hid (R7.out.keep tS (fun i e => by omega))
  have T8 := Lib.hid (T7.out.trans (W := fun _ => False) tS (fun _ e => e) (fun i e => .inr (by omega)))
  have RB8 := Lib.hid (RB7.out.turned tS (fun e => by omega))
  have hsz8 := Nat.le_trans hsz7 tS.size
  clear tS X7 R7 T7 RB7
  generalize ((((w7).setCell ⟨xb, 1, none⟩ (.int .i64 work))).setCell ⟨xb, 2, none⟩ (.int .i64 prev)) = w8 at *
  clear x0 x1 x2 x3 x4 x5 x6 x7 x8 x9 x10 xf
  obtain ⟨x0, x1, x2, x3, x4, x5, x6, x7, x8, x9, x10⟩ := RecAt.of_blk (R := (⟨0, work, prev, 0, 2, 0, [], [], [], [], []⟩ : Rec)) (S := (⟨⟨none, 0, 0⟩, ⟨none, 0, 0⟩, ⟨none, 0, 0⟩, ⟨none, 0, 0⟩, ⟨none, 0, 0⟩⟩ : RecS)) X8.out
  simp only at x0 x1 x2 x3 x4 x5 x6 x7 x8 x9 x10
  have xf := X8.out.frozen
  refine (H3.out _ R8.out).mono ?_
  rintro e w9 ⟨rfl, hR, t⟩
  have R9 := Lib.hid hR
  have T9 := Lib.hid (T8.out.trans (W := fun _ => False) t (fun _ e => e) (fun i e => .inr (by omega)))
  have RB9 := Lib.hid (RB8.out.turned t (fun e => by omega))
  have X9 := Lib.hid (X8.out.turned t (fun e => by omega))
  have hsz9 := Nat.le_trans hsz8 t.size
  have hmo9 := t.size
  clear hR t R8 T8 RB8 X8
  clear x0 x1 x2 x3 x4 x5 x6 x7 x8 x9 x10 xf
  obtain ⟨x0, x1, x2, x3, x4, x5, x6, x7, x8, x9, x10⟩ := RecAt.of_blk (R := (⟨0, work, prev, 0, 2, 0, [], [], [], [], []⟩ : Rec)) (S := (⟨⟨none, 0, 0⟩, ⟨none, 0, 0⟩, ⟨none, 0, 0⟩, ⟨none, 0, 0⟩, ⟨none, 0, 0⟩⟩ : RecS)) X9.out
  simp only at x0 x1 x2 x3 x4 x5 x6 x7 x8 x9 x10
  have xf := X9.out.frozen
  go_wp2_with fail
  have tS := ((Turned.refl (fun i => i = xb) w9).setCell (p := ⟨xb, 3, none⟩) (.inl rfl) (.int .i64 next))
  have X10 : Hid (Blk ((w9).setCell ⟨xb, 3, none⟩ (.int .i64 next)) xb 39 (recC (⟨0, work, prev, next, 2, 0, [], [], [], [], []⟩ : Rec) (⟨⟨none, 0, 0⟩, ⟨none, 0, 0⟩, ⟨none, 0, 0⟩, ⟨none, 0, 0⟩, ⟨none, 0, 0⟩⟩ : RecS))) := Lib.hid (X9.out.set_ 3 (.int .i64 next))
  have R10 := Lib.hid (R9.out.keep tS (fun i e => by omega))
  have T10 := Lib.hid (T9.out.trans (W := fun _ => False) tS (fun _ e => e) (fun i e => .inr (by omega)))
  have RB10 := Lib.hid (RB9.out.turned tS (fun e => by omega))
  have hsz10 := Nat.le_trans hsz9 tS.size
  clear tS X9 R9 T9 RB9
  generalize ((w9).setCell ⟨xb, 3, none⟩ (.int .i64 next)) = w10 at *
  clear x0 x1 x2 x3 x4 x5 x6 x7 x8 x9 x10 xf
  obtain ⟨x0, x1, x2, x3, x4, x5, x6, x7, x8, x9, x10⟩ := RecAt.of_blk (R := (⟨0, work, prev, next, 2, 0, [], [], [], [], []⟩ : Rec)) (S := (⟨⟨none, 0, 0⟩, ⟨none, 0, 0⟩, ⟨none, 0, 0⟩, ⟨none, 0, 0⟩, ⟨none, 0, 0⟩⟩ : RecS)) X10.out
  simp only at x0 x1 x2 x3 x4 x5 x6 x7 x8 x9 x10
  have xf := X10.out.frozen
  refine (H4.out _ R10.out).mono ?_
  rintro e w11 ⟨rfl, hR, t⟩
  have R11 := Lib.hid hR
  have T11 := Lib.hid (T10.out.trans (W := fun _ => False) t (fun _ e => e) (fun i e => .inr (by omega)))
  have RB11 := Lib.hid (RB10.out.turned t (fun e => by omega))
  have X11 := Lib.hid (X10.out.turned t (fun e => by omega))
  have hsz11 := Nat.le_trans hsz10 t.size
  have hmo11 := t.size
  clear hR t R10 T10 RB10 X10
  clear x0 x1 x2 x3 x4 x5 x6 x7 x8 x9 x10 xf
  obtain ⟨x0, x1, x2, x3, x4, x5, x6, x7, x8, x9, x10⟩ := RecAt.of_blk (R := (⟨0, work, prev, next, 2, 0, [], [], [], [], []⟩ : Rec)) (S := (⟨⟨none, 0, 0⟩, ⟨none, 0, 0⟩, ⟨none, 0, 0⟩, ⟨none, 0, 0⟩, ⟨none, 0, 0⟩⟩ : RecS)) X11.out
  simp only at x0 x1 x2 x3 x4 x5 x6 x7 x8 x9 x10
  have xf := X11.out.frozen
  go_wp2_with fail
  have tS := ((Turned.refl (fun i => i = xb) w11).setCell (p := ⟨xb, 5, none⟩) (.inl rfl) (.int .i64 page))
  have X12 : Hid (Blk ((w11).setCell ⟨xb, 5, none⟩ (.int .i64 page)) xb 39 (recC (⟨0, work, prev, next, 2, page, [], [], [], [], []⟩ : Rec) (⟨⟨none, 0, 0⟩, ⟨none, 0, 0⟩, ⟨none, 0, 0⟩, ⟨none, 0, 0⟩, ⟨none, 0, 0⟩⟩ : RecS))) := Lib.hid (X11.out.set_ 5 (.int .i64 page))
  have R12 := Lib.hid (R11.out.keep tS (fun i e => by omega))
  have T12 := Lib.hid (T11.out.trans (W := fun _ => False) tS (fun _ e => e) (fun i e => .inr (by omega)))
  have RB12 := Lib.hid (RB11.out.turned tS (fun e => by omega))
  have hsz12 := Nat.le_trans hsz11 tS.size
  clear tS X11 R11 T11 RB11
  generalize ((w11).setCell ⟨xb, 5, none⟩ (.int .i64 page)) = w12 at *
  clear x0 x1 x2 x3 x4 x5 x6 x7 x8 x9 x10 xf
  obtain ⟨x0, x1, x2, x3, x4, x5, x6, x7, x8, x9, x10⟩ := RecAt.of_blk (R := (⟨0, work, prev, next, 2, page, [], [], [], [], []⟩ : Rec)) (S := (⟨⟨none, 0, 0⟩, ⟨none, 0, 0⟩, ⟨none, 0, 0⟩, ⟨none, 0, 0⟩, ⟨none, 0, 0⟩⟩ : RecS)) X12.out
  simp only at x0 x1 x2 x3 x4 x5 x6 x7 x8 x9 x10
  have xf := X12.out.frozen
  refine (H5.out _ R12.out).mono ?_
  rintro e w13 ⟨Ak, ck, rfl, ow, ob, hR, t⟩
  have owk := Lib.hid ow
  have owkB := Lib.hid (fun g (e : Ak = some ⟨g, 0, none⟩) => (show xb < g by have := ob g e; omega))
  have owkS := Lib.hid (fun g (e : Ak = some ⟨g, 0, none⟩) => (show w12.heap.size ≤ g ∧ g < w13.heap.size from ⟨ob g e, ow.lt e⟩))
  clear ow ob
  have R13 := Lib.hid hR
  have T13 := Lib.hid (T12.out.trans (W := fun _ => False) t (fun _ e => e) (fun i e => .inr (by omega)))
  have RB13 := Lib.hid (RB12.out.turned t (fun e => by omega))
  have X13 := Lib.hid (X12.out.turned t (fun e => by omega))
  have hsz13 := Nat.le_trans hsz12 t.size
  have hmo13 := t.size
  clear hR t R12 T12 RB12 X12
  clear x0 x1 x2 x3 x4 x5 x6 x7 x8 x9 x10 xf
  obtain ⟨x0, x1, x2, x3, x4, x5, x6, x7, x8, x9, x10⟩ := RecAt.of_blk (R := (⟨0, work, prev, next, 2, page, [], [], [], [], []⟩ : Rec)) (S := (⟨⟨none, 0, 0⟩, ⟨none, 0, 0⟩, ⟨none, 0, 0⟩, ⟨none, 0, 0⟩, ⟨none, 0, 0⟩⟩ : RecS)) X13.out
  simp only at x0 x1 x2 x3 x4 x5 x6 x7 x8 x9 x10
  have xf := X13.out.frozen
  go_wp2_with fail
  refine (H6.out _ R13.out).mono ?_
  rintro e w14 ⟨Ao, co, rfl, ow, ob, hR, t⟩
  have owo := Lib.hid ow
  have owoB := Lib.hid (fun g (e : Ao = some ⟨g, 0, none⟩) => (show xb < g by have := ob g e; omega))
  have owoS := Lib.hid (fun g (e : Ao = some ⟨g, 0, none⟩) => (show w13.heap.size ≤ g ∧ g < w14.heap.size from ⟨ob g e, ow.lt e⟩))
  clear ow ob
  have R14 := Lib.hid hR
  have T14 := Lib.hid (T13.out.trans (W := fun _ => False) t (fun _ e => e) (fun i e => .inr (by omega)))
  have RB14 := Lib.hid (RB13.out.turned t (fun e => by omega))
  have X14 := Lib.hid (X13.out.turned t (fun e => by omega))
  have hsz14 := Nat.le_trans hsz13 t.size
  have hmo14 := t.size
  have owk := Lib.hid (owk.out.turned t (fun g e e2 => by have := owkB.out g e; omega))
  clear hR t R13 T13 RB13 X13
  clear x0 x1 x2 x3 x4 x5 x6 x7 x8 x9 x10 xf
  obtain ⟨x0, x1, x2, x3, x4, x5, x6, x7, x8, x9, x10⟩ := RecAt.of_blk (R := (⟨0, work, prev, next, 2, page, [], [], [], [], []⟩ : Rec)) (S := (⟨⟨none, 0, 0⟩, ⟨none, 0, 0⟩, ⟨none, 0, 0⟩, ⟨none, 0, 0⟩, ⟨none, 0, 0⟩⟩ : RecS)) X14.out
  simp only at x0 x1 x2 x3 x4 x5 x6 x7 x8 x9 x10
  have xf := X14.out.frozen
  go_wp2_with fail
  refine (H7.out _ R14.out).mono ?_
  rintro e w15 ⟨An, cn, rfl, ow, ob, hR, t⟩
  have own := Lib.hid ow
  have ownB := Lib.hid (fun g (e : An = some ⟨g, 0, none⟩) => (show xb < g by have := ob g e; omega))
  have ownS := Lib.hid (fun g (e : An = some ⟨g, 0, none⟩) => (show w14.heap.size ≤ g ∧ g < w15.heap.size from ⟨ob g e, ow.lt e⟩))
  clear ow ob
  have R15 := Lib.hid hR
  have T15 := Lib.hid (T14.out.trans (W := fun _ => False) t (fun _ e => e) (fun i e => .inr (by omega)))
  have RB15 := Lib.hid (RB14.out.turned t (fun e => by omega))
  have X15 := Lib.hid (X14.out.turned t (fun e => by omega))
  have hsz15 := Nat.le_trans hsz14 t.size
  have hmo15 := t.size
  have owk := Lib.hid (owk.out.turned t (fun g e e2 => by have := owkB.out g e; omega))
  have owo := Lib.hid (owo.out.turned t (fun g e e2 => by have := owoB.out g e; omega))
  clear hR t R14 T14 RB14 X14
  clear x0 x1 x2 x3 x4 x5 x6 x7 x8 x9 x10 xf
  obtain ⟨x0, x1, x2, x3, x4, x5, x6, x7, x8, x9, x10⟩ := RecAt.of_blk (R := (⟨0, work, prev, next, 2, page, [], [], [], [], []⟩ : Rec)) (S := (⟨⟨none, 0, 0⟩, ⟨none, 0, 0⟩, ⟨none, 0, 0⟩, ⟨none, 0, 0⟩, ⟨none, 0, 0⟩⟩ : RecS)) X15.out
  simp only at x0 x1 x2 x3 x4 x5 x6 x7 x8 x9 x10
  have xf := X15.out.frozen
  cases hse : s11 with
  | none =>
    rw [hse] at R15
    obtain ⟨Ar, nr, cr, r0, r1⟩ := rd_end R15.out
    obtain ⟨y0, y1, y2, y3, y4, y5, y6, y7, y8, y9, y10⟩ := RecAt.of_blk (R := Rec.zero) (S := RecS.nil) RB15.out
    simp only [Rec.zero, RecS.nil, Sl.nil] at y0 y1 y2 y3 y4 y5 y6 y7 y8 y9 y10
    have yf := RB15.out.frozen
    have hno := Lib.hid (show getR zs = none by rw [HG.out, hse]; exact fin_none _ _)
    clear HG
    go_wp2_with fail
    have tS := ((((Turned.refl (fun i => i = xb) w15).setCell (p := ⟨xb, 6, none⟩) (.inl rfl) (.slice Ak key.length ck)).setCell (p := ⟨xb, 7, none⟩) (.inl rfl) (.slice Ao old.length co)).setCell (p := ⟨xb, 8, none⟩) (.inl rfl) (.slice An new.length cn))
    have TS := Lib.hid (T15.out.trans (W := fun _ => False) tS (fun _ e => e) (fun i e => .inr (by omega)))
    have RBS := Lib.hid (RB15.out.turned tS (fun e => by omega))
    generalize (((w15.setCell ⟨xb, 6, none⟩ (.slice Ak key.length ck)).setCell ⟨xb, 7, none⟩ (.slice Ao old.length co)).setCell ⟨xb, 8, none⟩ (.slice An new.length cn)) = ws at *
    obtain ⟨wz, hwz, XZ, tZ⟩ := fin11 (.int .i64 0) (.int .i64 0) (.int .i64 0) (.int .i64 0) (.int .u8 0) (.int .i64 0) (.slice none 0 0) (.slice none 0 0) (.slice none 0 0) (.slice none 0 0) (.slice none 0 0) RBS.out
    rw [hwz]
    clear hwz
    have TZ := TS.out.trans (W := fun _ => False) tZ (fun _ e => e) (fun i e => .inr (by omega))
    obtain ⟨e0, e1, e2, e3, e4, e5, e6, e7, e8, e9, e10⟩ := XZ.cells11
    refine bodyPost_ret (v := .tuple #[.agg #[.int .i64 0, .int .i64 0, .int .i64 0, .int .i64 0, .int .u8 0, .int .i64 0, .slice none 0 0, .slice none 0 0, .slice none 0 0, .slice none 0 0, .slice none 0 0], .int .i64 0, .int .i64 4]) (by simp [results, Tryd.results51, go_sem, e0, e1, e2, e3, e4, e5, e6, e7, e8, e9, e10]) rfl ?_
    exact .inr ⟨hno.out, rfl, TZ⟩
  | some ys =>
    cases ys with
    | cons y ys =>
      rw [hse] at R15
      obtain ⟨Ar, nr, cr, r0, r1, hn1, hn2⟩ := rd_some R15.out
      have hn3 : (0 : Int) < (nr : Int) := by rw [hn1, List.length_cons]; omega
      have hn4 : 0 < nr := by omega
      clear hn1
      obtain ⟨y0, y1, y2, y3, y4, y5, y6, y7, y8, y9, y10⟩ := RecAt.of_blk (R := Rec.zero) (S := RecS.nil) RB15.out
      simp only [Rec.zero, RecS.nil, Sl.nil] at y0 y1 y2 y3 y4 y5 y6 y7 y8 y9 y10
      have yf := RB15.out.frozen
      have hno := Lib.hid (show getR zs = none by rw [HG.out, hse]; exact fin_more _ _ _ _)
      clear HG
      go_wp2_with fail
      have tS := ((((Turned.refl (fun i => i = xb) w15).setCell (p := ⟨xb, 6, none⟩) (.inl rfl) (.slice Ak key.length ck)).setCell (p := ⟨xb, 7, none⟩) (.inl rfl) (.slice Ao old.length co)).setCell (p := ⟨xb, 8, none⟩) (.inl rfl) (.slice An new.length cn))
      have TS := Lib.hid (T15.out.trans (W := fun _ => False) tS (fun _ e => e) (fun i e => .inr (by omega)))
      have RBS := Lib.hid (RB15.out.turned tS (fun e => by omega))
      generalize (((w15.setCell ⟨xb, 6, none⟩ (.slice Ak key.length ck)).setCell ⟨xb, 7, none⟩ (.slice Ao old.length co)).setCell ⟨xb, 8, none⟩ (.slice An new.length cn)) = ws at *
      obtain ⟨wz, hwz, XZ, tZ⟩ := fin11 (.int .i64 0) (.int .i64 0) (.int .i64 0) (.int .i64 0) (.int .u8 0) (.int .i64 0) (.slice none 0 0) (.slice none 0 0) (.slice none 0 0) (.slice none 0 0) (.slice none 0 0) RBS.out
      rw [hwz]
      clear hwz
      have TZ := TS.out.trans (W := fun _ => False) tZ (fun _ e => e) (fun i e => .inr (by omega))
      obtain ⟨e0, e1, e2, e3, e4, e5, e6, e7, e8, e9, e10⟩ := XZ.cells11
      refine bodyPost_ret (v := .tuple #[.agg #[.int .i64 0, .int .i64 0, .int .i64 0, .int .i64 0, .int .u8 0, .int .i64 0, .slice none 0 0, .slice none 0 0, .slice none 0 0, .slice none 0 0, .slice none 0 0], .int .i64 0, .int .i64 4]) (by simp [results, Tryd.results51, go_sem, e0, e1, e2, e3, e4, e5, e6, e7, e8, e9, e10]) rfl ?_
      exact .inr ⟨hno.out, rfl, TZ⟩
    | nil =>
      rw [hse] at R15
      obtain ⟨Ar, nr, cr, r0, r1, hn1, hn2⟩ := rd_some R15.out
      obtain rfl : nr = 0 := hn1
      obtain ⟨y0, y1, y2, y3, y4, y5, y6, y7, y8, y9, y10⟩ := RecAt.of_blk (R := Rec.zero) (S := RecS.nil) RB15.out
      simp only [Rec.zero, RecS.nil, Sl.nil] at y0 y1 y2 y3 y4 y5 y6 y7 y8 y9 y10
      have yf := RB15.out.frozen
      go_wp2_with fail
      have tS := ((((Turned.refl (fun i => i = xb) w15).setCell (p := ⟨xb, 6, none⟩) (.inl rfl) (.slice Ak key.length ck)).setCell (p := ⟨xb, 7, none⟩) (.inl rfl) (.slice Ao old.length co)).setCell (p := ⟨xb, 8, none⟩) (.inl rfl) (.slice An new.length cn))
      have T16 := Lib.hid (T15.out.trans (W := fun _ => False) tS (fun _ e => e) (fun i e => .inr (by omega)))
      have RB16 := Lib.hid (RB15.out.turned tS (fun e => by omega))
      have X16 : Hid (Blk (((w15.setCell ⟨xb, 6, none⟩ (.slice Ak key.length ck)).setCell ⟨xb, 7, none⟩ (.slice Ao old.length co)).setCell ⟨xb, 8, none⟩ (.slice An new.length cn)) xb 39 (recC (⟨0, work, prev, next, 2, page, key, old, new, [], []⟩ : Rec) (⟨⟨Ak, key.length, ck⟩, ⟨Ao, old.length, co⟩, ⟨An, new.length, cn⟩, ⟨none, 0, 0⟩, ⟨none, 0, 0⟩⟩ : RecS))) := Lib.hid (((X15.out.set_ 6 (.slice Ak key.length ck)).set_ 7 (.slice Ao old.length co)).set_ 8 (.slice An new.length cn))
      have owk := Lib.hid (owk.out.turned tS (fun g e e2 => owk.out.blk X15.out (by decide) e e2))
      have owo := Lib.hid (owo.out.turned tS (fun g e e2 => owo.out.blk X15.out (by decide) e e2))
      have own := Lib.hid (own.out.turned tS (fun g e e2 => own.out.blk X15.out (by decide) e e2))
      generalize (((w15.setCell ⟨xb, 6, none⟩ (.slice Ak key.length ck)).setCell ⟨xb, 7, none⟩ (.slice Ao old.length co)).setCell ⟨xb, 8, none⟩ (.slice An new.length cn)) = w16 at *
      clear tS X15 T15 RB15
      have hOwn : RecOwn w16 w.heap.size (⟨0, work, prev, next, 2, page, key, old, new, [], []⟩ : Rec) (⟨⟨Ak, key.length, ck⟩, ⟨Ao, old.length, co⟩, ⟨An, new.length, cn⟩, ⟨none, 0, 0⟩, ⟨none, 0, 0⟩⟩ : RecS) := ⟨owk.out, owo.out, own.out, OwnE.nil _ _ _, OwnE.nil _ _ _, (fun g e => by have := owkB.out g e; omega), (fun g e => by have := owoB.out g e; omega), (fun g e => by have := ownB.out g e; omega), (fun g e => by cases e), (fun g e => by cases e), (fun g e e2 => by have h1 := owkS.out g e; have h2 := owoS.out g e2; omega), (fun g e e2 => by have h1 := owkS.out g e; have h2 := ownS.out g e2; omega), (fun g e e2 => by have h1 := owoS.out g e; have h2 := ownS.out g e2; omega), ⟨by show key.length ≤ 1000000; omega, by show old.length ≤ 1000000; omega, by show new.length ≤ 1000000; omega, Nat.zero_le _, Nat.zero_le _⟩⟩
      have hRt := right_any (⟨0, work, prev, next, 2, page, key, old, new, [], []⟩ : Rec) (⟨⟨Ak, key.length, ck⟩, ⟨Ao, old.length, co⟩, ⟨An, new.length, cn⟩, ⟨none, 0, 0⟩, ⟨none, 0, 0⟩⟩ : RecS) w16 hOwn.is
      have HO := Lib.hid hOwn
      unfold recC at hRt
      simp only at hRt
      clear hOwn y0 y1 y2 y3 y4 y5 y6 y7 y8 y9 y10 yf
      obtain ⟨y0, y1, y2, y3, y4, y5, y6, y7, y8, y9, y10⟩ := RecAt.of_blk (R := Rec.zero) (S := RecS.nil) RB16.out
      simp only [Rec.zero, RecS.nil, Sl.nil] at y0 y1 y2 y3 y4 y5 y6 y7 y8 y9 y10
      cases hrr : rightR (⟨0, work, prev, next, 2, page, key, old, new, [], []⟩ : Rec) with
      | false =>
        rw [hrr] at hRt
        refine hRt.mono ?_
        rintro e wq ⟨rfl, tq⟩
        have TQ := Lib.hid (T16.out.and_ tq)
        have RBQ := Lib.hid (RB16.out.turned tq (fun e => e))
        have XQ := Lib.hid (X16.out.turned tq (fun e => e))
        have HOQ := Lib.hid (HO.out.fresh tq)
        clear y0 y1 y2 y3 y4 y5 y6 y7 y8 y9 y10
        clear x0 x1 x2 x3 x4 x5 x6 x7 x8 x9 x10 xf
        obtain ⟨y0, y1, y2, y3, y4, y5, y6, y7, y8, y9, y10⟩ := RecAt.of_blk (R := Rec.zero) (S := RecS.nil) RBQ.out
        simp only [Rec.zero, RecS.nil, Sl.nil] at y0 y1 y2 y3 y4 y5 y6 y7 y8 y9 y10
        have yf := RBQ.out.frozen
        obtain ⟨x0, x1, x2, x3, x4, x5, x6, x7, x8, x9, x10⟩ := RecAt.of_blk (R := (⟨0, work, prev, next, 2, page, key, old, new, [], []⟩ : Rec)) (S := (⟨⟨Ak, key.length, ck⟩, ⟨Ao, old.length, co⟩, ⟨An, new.length, cn⟩, ⟨none, 0, 0⟩, ⟨none, 0, 0⟩⟩ : RecS)) XQ.out
        simp only at x0 x1 x2 x3 x4 x5 x6 x7 x8 x9 x10
        have xf := XQ.out.frozen
        have hno := Lib.hid (show getR zs = none by rw [HG.out, hse]; exact fin_no hrr)
        clear hrr HG tq hRt
        go_wp2_with fail
        obtain ⟨wz, hwz, XZ, tZ⟩ := fin11 (.int .i64 0) (.int .i64 0) (.int .i64 0) (.int .i64 0) (.int .u8 0) (.int .i64 0) (.slice none 0 0) (.slice none 0 0) (.slice none 0 0) (.slice none 0 0) (.slice none 0 0) RBQ.out
        rw [hwz]
        clear hwz
        have TZ := TQ.out.trans (W := fun _ => False) tZ (fun _ e => e) (fun i e => .inr (by omega))
        obtain ⟨e0, e1, e2, e3, e4, e5, e6, e7, e8, e9, e10⟩ := XZ.cells11
        refine bodyPost_ret (v := .tuple #[.agg #[.int .i64 0, .int .i64 0, .int .i64 0, .int .i64 0, .int .u8 0, .int .i64 0, .slice none 0 0, .slice none 0 0, .slice none 0 0, .slice none 0 0, .slice none 0 0], .int .i64 0, .int .i64 4]) (by simp [results, Tryd.results51, go_sem, e0, e1, e2, e3, e4, e5, e6, e7, e8, e9, e10]) rfl ?_
        exact .inr ⟨hno.out, rfl, TZ⟩
      | true =>
        rw [hrr] at hRt
        refine hRt.mono ?_
        rintro e wq ⟨rfl, tq⟩
        have TQ := Lib.hid (T16.out.and_ tq)
        have RBQ := Lib.hid (RB16.out.turned tq (fun e => e))
        have XQ := Lib.hid (X16.out.turned tq (fun e => e))
        have HOQ := Lib.hid (HO.out.fresh tq)
        clear y0 y1 y2 y3 y4 y5 y6 y7 y8 y9 y10
        clear x0 x1 x2 x3 x4 x5 x6 x7 x8 x9 x10 xf
        obtain ⟨y0, y1, y2, y3, y4, y5, y6, y7, y8, y9, y10⟩ := RecAt.of_blk (R := Rec.zero) (S := RecS.nil) RBQ.out
        simp only [Rec.zero, RecS.nil, Sl.nil] at y0 y1 y2 y3 y4 y5 y6 y7 y8 y9 y10
        have yf := RBQ.out.frozen
        obtain ⟨x0, x1, x2, x3, x4, x5, x6, x7, x8, x9, x10⟩ := RecAt.of_blk (R := (⟨0, work, prev, next, 2, page, key, old, new, [], []⟩ : Rec)) (S := (⟨⟨Ak, key.length, ck⟩, ⟨Ao, old.length, co⟩, ⟨An, new.length, cn⟩, ⟨none, 0, 0⟩, ⟨none, 0, 0⟩⟩ : RecS)) XQ.out
        simp only at x0 x1 x2 x3 x4 x5 x6 x7 x8 x9 x10
        have xf := XQ.out.frozen
        have hys := Lib.hid (show getR zs = some ((⟨0, work, prev, next, 2, page, key, old, new, [], []⟩ : Rec), 2 + m) by rw [HG.out, hse]; exact fin_yes hrr)
        clear hrr HG tq hRt
        go_wp2_with fail
        obtain ⟨wz, hwz, XZ, tZ⟩ := fin11 (.int .i64 0) (.int .i64 work) (.int .i64 prev) (.int .i64 next) (.int .u8 2) (.int .i64 page) (.slice Ak key.length ck) (.slice Ao old.length co) (.slice An new.length cn) (.slice none 0 0) (.slice none 0 0) RBQ.out
        rw [hwz]
        clear hwz
        have TZ := TQ.out.trans (W := fun _ => False) tZ (fun _ e => e) (fun i e => .inr (by omega))
        obtain ⟨e0, e1, e2, e3, e4, e5, e6, e7, e8, e9, e10⟩ := XZ.cells11
        refine bodyPost_ret (v := .tuple #[.agg #[.int .i64 0, .int .i64 work, .int .i64 prev, .int .i64 next, .int .u8 2, .int .i64 page, .slice Ak key.length ck, .slice Ao old.length co, .slice An new.length cn, .slice none 0 0, .slice none 0 0], .int .i64 (2 + (m : Int)), .int .i64 0]) (by simp [results, Tryd.results51, go_sem, e0, e1, e2, e3, e4, e5, e6, e7, e8, e9, e10]) rfl ?_
        have HZ : RecOwn wz w.heap.size (⟨0, work, prev, next, 2, page, key, old, new, [], []⟩ : Rec) (⟨⟨Ak, key.length, ck⟩, ⟨Ao, old.length, co⟩, ⟨An, new.length, cn⟩, ⟨none, 0, 0⟩, ⟨none, 0, 0⟩⟩ : RecS) := HOQ.out.moved tZ (fun i e => by omega) RBQ.out (by decide) (by decide) (by decide)
        exact .inl ⟨_, 2 + m, (⟨⟨Ak, key.length, ck⟩, ⟨Ao, old.length, co⟩, ⟨An, new.length, cn⟩, ⟨none, 0, 0⟩, ⟨none, 0, 0⟩⟩ : RecS), hys.out, by rw [Int.natCast_add]; rfl, HZ, TZ⟩
set_option maxRecDepth 100000 in
set_option maxHeartbeats 1000000 in
theorem get_6 (A : Option Addr) (n c : Nat) (zs : List Int) (w : World) (h : BytS w A n c zs) (hb : ∀ z ∈ zs, isByte z) (hnc : n ≤ c) (hc : c ≤ maxLen) (hk : kindOf zs = 6) : Calls Tryd.prog 51 #[.slice A n c] w (RGet zs w) := by
  have hbS : ∀ ys, (some zs : Option (List Int)) = some ys → ∀ y ∈ ys, isByte y := fun ys e y hy => by injection e with e; subst e; exact hb y hy
  obtain ⟨m, hm, hm2⟩ := numS2_nat (some zs) hbS
  have hG : getR zs = finR m (restS (kindOf zs) (numS 1 (inS m (numS 2 (some zs)).2)).2) := by
    unfold getR getS kindOf
    rw [hm, Int.toNat_natCast]
  have hkd : (numS 1 (inS m (numS 2 (some zs)).2)).1 = kindOf zs := by
    unfold kindOf
    rw [hm, Int.toNat_natCast]
  obtain ⟨kk, hkk, hk255⟩ := numS1_nat (inS m (numS 2 (some zs)).2) (inS_bytes (numS_bytes hbS))
  rw [hkd] at hkk
  rw [hk] at hG
  clear hkk hk255
  have hcm := hc
  unfold maxLen at hcm
  have hpl : 0 < n → PlA (w.heap.size + 1) A := fun h0 => by
    obtain ⟨b, off, e, hcl⟩ := h.cell h0
    have := World.block_lt_of_cell? w ⟨b, off + 0, none⟩ (hcl 0 h0)
    exact .inr ⟨b, off, e, by simp at this; omega⟩
  have hRB := (Blk.new w 39 #[.int .i64 0, .int .i64 0, .int .i64 0, .int .i64 0, .int .u8 0, .int .i64 0, .slice none 0 0, .slice none 0 0, .slice none 0 0, .slice none 0 0, .slice none 0 0]).alloc (.cells #[.slice A n c, .bool false] 135)
  have hRd : RdBlk ((w.alloc (.cells #[.int .i64 0, .int .i64 0, .int .i64 0, .int .i64 0, .int .u8 0, .int .i64 0, .slice none 0 0, .slice none 0 0, .slice none 0 0, .slice none 0 0, .slice none 0 0] 39)).alloc (.cells #[.slice A n c, .bool false] 135)) (w.heap.size + 1) A n c false := Blk.new_at _ _ _ (by simp)
  have hT := ((Turned.refl (fun _ => False) w).alloc (.cells #[.int .i64 0, .int .i64 0, .int .i64 0, .int .i64 0, .int .u8 0, .int .i64 0, .slice none 0 0, .slice none 0 0, .slice none 0 0, .slice none 0 0, .slice none 0 0] 39)).alloc (.cells #[.slice A n c, .bool false] 135)
  have hs0 : ((w.alloc (.cells #[.int .i64 0, .int .i64 0, .int .i64 0, .int .i64 0, .int .u8 0, .int .i64 0, .slice none 0 0, .slice none 0 0, .slice none 0 0, .slice none 0 0, .slice none 0 0] 39)).alloc (.cells #[.slice A n c, .bool false] 135)).heap.size = w.heap.size + 2 := by simp
  have hN1 : Calls Tryd.prog 71 #[.pointer (some ⟨w.heap.size + 1, 0, none⟩), .int .i64 (2 : Nat)] ((w.alloc (.cells #[.int .i64 0, .int .i64 0, .int .i64 0, .int .i64 0, .int .u8 0, .int .i64 0, .slice none 0 0, .slice none 0 0, .slice none 0 0, .slice none 0 0, .slice none 0 0] 39)).alloc (.cells #[.slice A n c, .bool false] 135)) (NumSPost (w.heap.size + 1) 2 (some zs) ((w.alloc (.cells #[.int .i64 0, .int .i64 0, .int .i64 0, .int .i64 0, .int .u8 0, .int .i64 0, .slice none 0 0, .slice none 0 0, .slice none 0 0, .slice none 0 0, .slice none 0 0] 39)).alloc (.cells #[.slice A n c, .bool false] 135))) := by
    rcases Nat.lt_or_ge n 2 with hlt | hge
    · exact number_by _ 2 (some zs) _ (take_short _ A n c 2 false _ hRd (by omega) (by omega) (.inr hlt) (some zs) (takeS_short (by rw [h.len]; exact hlt))) (by omega) hbS
    · exact number_any _ 2 (some zs) _ ⟨A, n, c, hRd, h.turned hT (fun _ _ _ e => e), hnc, hc, hpl (by omega)⟩ (by omega) hbS
  unfold NumSPost at hN1
  rw [hm] at hN1
  have hb1 := Lib.hid (numS_bytes (k := 2) hbS)
  have hN1' := Lib.hid hN1
  have RB0 := Lib.hid hRB
  have T0 := Lib.hid hT
  have HG := Lib.hid hG
  have HKD := Lib.hid hkd
  clear hN1 hRB hRd hT hG hkd hm hpl h hb hbS
  generalize (numS 2 (some zs)).2 = s1 at *
  go_enter Tryd.func51, Tryd.ntmps51
  go_wp2_with fail
  generalize (w.alloc (.cells #[.int .i64 0, .int .i64 0, .int .i64 0, .int .i64 0, .int .u8 0, .int .i64 0, .slice none 0 0, .slice none 0 0, .slice none 0 0, .slice none 0 0, .slice none 0 0] 39)).alloc (.cells #[.slice A n c, .bool false] 135) = w0 at *
  refine hN1'.out.mono ?_
  rintro e w1 ⟨rfl, hR1, t1⟩
  have R1 := Lib.hid hR1
  have T1 := Lib.hid (T0.out.trans (W := fun _ => False) t1 (fun _ e => e) (fun i e => .inr (by omega)))
  have RB1 := Lib.hid (RB0.out.turned t1 (fun e => by omega))
  clear hR1 t1 T0 RB0 hN1'
  go_wp2_with fail
  refine (take_any (w.heap.size + 1) m s1 w1 R1.out (by omega)).mono ?_
  rintro e w2 ⟨A2, n2, c2, rfl, hy2, hnc2, hc2, hp2, hR2, t2⟩
  have R3 := Lib.hid (isRd_in hy2 hnc2 hc2 hp2 hR2)
  obtain ⟨A3, n3, c3, sh3, hq3⟩ := rd_blk hR2
  have q0 : w2.cell? ⟨w.heap.size + 1, 0, none⟩ = some (.slice A3 n3 c3) := hq3.cell 0
  have f0 := hq3.frozen 0
  have t3 := t2.setCell (p := ⟨w.heap.size + 1, 0, none⟩) (.inl rfl) (.slice A2 n2 c2)
  have T3 := Lib.hid (T1.out.trans (W := fun _ => False) t3 (fun _ e => e) (fun i e => .inr (by omega)))
  have RB3 := Lib.hid (RB1.out.turned t3 (fun e => by omega))
  clear hy2 hnc2 hc2 hp2 hR2 t2 t3 hq3 R1 T1 RB1
  go_wp2_with fail
  generalize w2.setCell ⟨w.heap.size + 1, 0, none⟩ (.slice A2 n2 c2) = w3 at *
  have hN3 := number_any (w.heap.size + 1) 1 (inS m s1) w3 R3.out (by omega) (inS_bytes hb1.out)
  unfold NumSPost at hN3
  rw [HKD.out, hk] at hN3
  refine hN3.mono ?_
  rintro e w4 ⟨rfl, hR4, t4⟩
  have R4 := Lib.hid hR4
  have T4 := Lib.hid (T3.out.trans (W := fun _ => False) t4 (fun _ e => e) (fun i e => .inr (by omega)))
  have RB4 := Lib.hid (RB3.out.turned t4 (fun e => by omega))
  have hb4 := Lib.hid (numS_bytes (k := 1) (inS_bytes hb1.out (k := m)))
  clear hR4 t4 T3 RB3 R3 q0 f0 hN3 hb1
  generalize (numS 1 (inS m s1)).2 = s4 at *
  clear HKD
  have hxr := R4.out.lt
  have hwr : w.heap.size < w.heap.size + 1 := by omega
  have HG := Lib.hid (show getR zs = finR m ((⟨0, (numS 8 s4).1, (numS 8 (numS 8 s4).2).1, (numS 2 (numS 2 (numS 8 (numS 8 s4).2).2).2).1, 6, (numS 2 (numS 8 (numS 8 s4).2).2).1, [], [], [], [], []⟩ : Rec), (numS 2 (numS 2 (numS 8 (numS 8 s4).2).2).2).2) from HG.out)
  generalize w.heap.size + 1 = r at *
  have H1 := Lib.hid (fun (w' : World) (h : IsRd w' r s4) => number_any r 8 s4 w' h (by omega) hb4.out)
  have hb5 := Lib.hid (numS_bytes (k := 8) hb4.out)
  unfold NumSPost at H1
  generalize (numS 8 s4).1 = work at *
  generalize (numS 8 s4).2 = s5 at *
  clear hb4
  have H2 := Lib.hid (fun (w' : World) (h : IsRd w' r s5) => number_any r 8 s5 w' h (by omega) hb5.out)
  have hb6 := Lib.hid (numS_bytes (k := 8) hb5.out)
  unfold NumSPost at H2
  generalize (numS 8 s5).1 = prev at *
  generalize (numS 8 s5).2 = s6 at *
  clear hb5
  have H3 := Lib.hid (fun (w' : World) (h : IsRd w' r s6) => number_any r 2 s6 w' h (by omega) hb6.out)
  have hb7 := Lib.hid (numS_bytes (k := 2) hb6.out)
  unfold NumSPost at H3
  generalize (numS 2 s6).1 = page at *
  generalize (numS 2 s6).2 = s7 at *
  clear hb6
  have H4 := Lib.hid (fun (w' : World) (h : IsRd w' r s7) => number_any r 2 s7 w' h (by omega) hb7.out)
  have hb8 := Lib.hid (numS_bytes (k := 2) hb7.out)
  unfold NumSPost at H4
  generalize (numS 2 s7).1 = next at *
  generalize (numS 2 s7).2 = s8 at *
  clear hb7
  have X5 := Lib.hid (Blk.new w4 39 (recC (⟨0, 0, 0, 0, 6, 0, [], [], [], [], []⟩ : Rec) (⟨⟨none, 0, 0⟩, ⟨none, 0, 0⟩, ⟨none, 0, 0⟩, ⟨none, 0, 0⟩, ⟨none, 0, 0⟩⟩ : RecS)))
  have t5 := (Turned.refl (fun _ => False) w4).alloc (.cells (recC (⟨0, 0, 0, 0, 6, 0, [], [], [], [], []⟩ : Rec) (⟨⟨none, 0, 0⟩, ⟨none, 0, 0⟩, ⟨none, 0, 0⟩, ⟨none, 0, 0⟩, ⟨none, 0, 0⟩⟩ : RecS)) 39)
  have hsz5 : w4.heap.size + 1 ≤ (w4.alloc (.cells (recC (⟨0, 0, 0, 0, 6, 0, [], [], [], [], []⟩ : Rec) (⟨⟨none, 0, 0⟩, ⟨none, 0, 0⟩, ⟨none, 0, 0⟩, ⟨none, 0, 0⟩, ⟨none, 0, 0⟩⟩ : RecS)) 39)).heap.size := by simp
  have R5 := Lib.hid (R4.out.fresh t5)
  have T5 := Lib.hid (T4.out.and_ t5)
  have RB5 := Lib.hid (RB4.out.turned t5 (fun e => e))
  clear t5 R4 T4 RB4
  unfold recC at X5 hsz5 R5 T5 RB5
  simp only at X5 hsz5 R5 T5 RB5
  go_wp2_with fail
  generalize w4.alloc (.cells #[.int .i64 0, .int .i64 0, .int .i64 0, .int .i64 0, .int .u8 6, .int .i64 0, .slice none 0 0, .slice none 0 0, .slice none 0 0, .slice none 0 0, .slice none 0 0] 39) = w5 at *
  generalize w4.heap.size = xb at *
  have hne1 : ¬ (r = xb) := by omega
  have hne2 : ¬ (xb = r) := by omega
  have hne3 : ¬ (w.heap.size = xb) := by omega
  have hne4 : ¬ (xb = w.heap.size) := by omega
  have hne5 : ¬ (w.heap.size = r) := by omega
  have hne6 : ¬ (r = w.heap.size) := by omega
  have RB5 : Hid (Blk w5 w.heap.size 39 (recC Rec.zero RecS.nil)) := RB5
  obtain ⟨x0, x1, x2, x3, x4, x5, x6, x7, x8, x9, x10⟩ := RecAt.of_blk (R := (⟨0, 0, 0, 0, 6, 0, [], [], [], [], []⟩ : Rec)) (S := (⟨⟨none, 0, 0⟩, ⟨none, 0, 0⟩, ⟨none, 0, 0⟩, ⟨none, 0, 0⟩, ⟨none, 0, 0⟩⟩ : RecS)) X5.out
  simp only at x0 x1 x2 x3 x4 x5 x6 x7 x8 x9 x10
  have xf := X5.out.frozen
  refine (H1.out _ R5.out).mono ?_
  rintro e w6 ⟨rfl, hR, t⟩
  have R6 := Lib.hid hR
  have T6 := Lib.hid (T5.out.trans (W := fun _ => False) t (fun _ e => e) (fun i e => .inr (by omega)))
  have RB6 := Lib.hid (RB5.out.turned t (fun e => by omega))
  have X6 := Lib.hid (X5.out.turned t (fun e => by omega))
  have hsz6 := Nat.le_trans hsz5 t.size
  have hmo6 := t.size
  clear hR t R5 T5 RB5 X5
  clear x0 x1 x2 x3 x4 x5 x6 x7 x8 x9 x10 xf
  obtain ⟨x0, x1, x2, x3, x4, x5, x6, x7, x8, x9, x10⟩ := RecAt.of_blk (R := (⟨0, 0, 0, 0, 6, 0, [], [], [], [], []⟩ : Rec)) (S := (⟨⟨none, 0, 0⟩, ⟨none, 0, 0⟩, ⟨none, 0, 0⟩, ⟨none, 0, 0⟩, ⟨none, 0, 0⟩⟩ : RecS)) X6.out
  simp only at x0 x1 x2 x3 x4 x5 x6 x7 x8 x9 x10
  have xf := X6.out.frozen
  go_wp2_with fail
  refine (H2.out _ R6.out).mono ?_
  rintro e w7 ⟨rfl, hR, t⟩
  have R7 := Lib.hid hR
  have T7 := Lib.hid (T6.out.trans (W := fun _ => False) t (fun _ e => e) (fun i e => .inr (by omega)))
  have RB7 := Lib.hid (RB6.out.turned t (fun e => by omega))
  have X7 := Lib.hid (X6.out.turned t (fun e => by omega))
  have hsz7 := Nat.le_trans hsz6 t.size
  have hmo7 := t.size
  clear hR t R6 T6 RB6 X6
  clear x0 x1 x2 x3 x4 x5 x6 x7 x8 x9 x10 xf
  obtain ⟨x0, x1, x2, x3, x4, x5, x6, x7, x8, x9, x10⟩ := RecAt.of_blk (R := (⟨0, 0, 0, 0, 6, 0, [], [], [], [], []⟩ : Rec)) (S := (⟨⟨none, 0, 0⟩, ⟨none, 0, 0⟩, ⟨none, 0, 0⟩, ⟨none, 0, 0⟩, ⟨none, 0, 0⟩⟩ : RecS)) X7.out
  simp only at x0 x1 x2 x3 x4 x5 x6 x7 x8 x9 x10
  have xf := X7.out.frozen
  go_wp2_with fail
  have tS := (((Turned.refl (fun i => i = xb) w7).setCell (p := ⟨xb, 1, none⟩) (.inl rfl) (.int .i64 work)).setCell (p := ⟨xb, 2, none⟩) (.inl rfl) (.int .i64 prev))
  have X8 : Hid (Blk ((((w7).setCell ⟨xb, 1, none⟩ (.int .i64 work))).setCell ⟨xb, 2, none⟩ (.int .i64 prev)) xb 39 (recC (⟨0, work, prev, 0, 6, 0, [], [], [], [], []⟩ : Rec) (⟨⟨none, 0, 0⟩, ⟨none, 0, 0⟩, ⟨none, 0, 0⟩, ⟨none, 0, 0⟩, ⟨none, 0, 0⟩⟩ : RecS))) := Lib.hid ((X7.out.set_ 1 (.int .i64 work)).set_ 2 (.int .i64 prev))
  have R8 := Lib.hid (R7.out.keep tS (fun i e => by omega))
  have T8 := Lib.hid (T7.out.trans (W := fun _ => False) tS (fun _ e => e) (fun i e => .inr (by omega)))
  have RB8 := Lib.hid (RB7.out.turned tS (fun e => by omega))
  have hsz8 := Nat.le_trans hsz7 tS.size
  clear tS X7 R7 T7 RB7
  generalize ((((w7).setCell ⟨xb, 1, none⟩ (.int .i64 work))).setCell ⟨xb, 2, none⟩ (.int .i64 prev)) = w8 at *
  clear x0 x1 x2 x3 x4 x5 x6 x7 x8 x9 x10 xf
  obtain ⟨x0, x1, x2, x3, x4, x5, x6, x7, x8, x9, x10⟩ := RecAt.of_blk (R := (⟨0, work, prev, 0, 6, 0, [], [], [], [], []⟩ : Rec)) (S := (⟨⟨none, 0, 0⟩, ⟨none, 0, 0⟩, ⟨none, 0, 0⟩, ⟨none, 0, 0⟩, ⟨none, 0, 0⟩⟩ : RecS)) X8.out
  simp only at x0 x1 x2 x3 x4 x5 x6 x7 x8 x9 x10
  have xf := X8.out.frozen
  refine (H3.out _ R8.out).mono ?_
  rintro e w9 ⟨rfl, hR, t⟩
  have R9 := Lib.hid hR
  have T9 := Lib.hid (T8.out.trans (W := fun _ => False) t (fun _ e => e) (fun i e => .inr (by omega)))
  have RB9 := Lib.hid (RB8.out.turned t (fun e => by omega))
  have X9 := Lib.hid (X8.out.turned t (fun e => by omega))
  have hsz9 := Nat.le_trans hsz8 t.size
  have hmo9 := t.size
  clear hR t R8 T8 RB8 X8
  clear x0 x1 x2 x3 x4 x5 x6 x7 x8 x9 x10 xf
  obtain ⟨x0, x1, x2, x3, x4, x5, x6, x7, x8, x9, x10⟩ := RecAt.of_blk (R := (⟨0, work, prev, 0, 6, 0, [], [], [], [], []⟩ : Rec)) (S := (⟨⟨none, 0, 0⟩, ⟨none, 0, 0⟩, ⟨none, 0, 0⟩, ⟨none, 0, 0⟩, ⟨none, 0, 0⟩⟩ : RecS)) X9.out
  simp only at x0 x1 x2 x3 x4 x5 x6 x7 x8 x9 x10
  have xf := X9.out.frozen
  go_wp2_with fail
  have tS := ((Turned.refl (fun i => i = xb) w9).setCell (p := ⟨xb, 5, none⟩) (.inl rfl) (.int .i64 page))
  have X10 : Hid (Blk ((w9).setCell ⟨xb, 5, none⟩ (.int .i64 page)) xb 39 (recC (⟨0, work, prev, 0, 6, page, [], [], [], [], []⟩ : Rec) (⟨⟨none, 0, 0⟩, ⟨none, 0, 0⟩, ⟨none, 0, 0⟩, ⟨none, 0, 0⟩, ⟨none, 0, 0⟩⟩ : RecS))) := Lib.hid (X9.out.set_ 5 (.int .i64 page))
  have R10 := Lib.hid (R9.out.keep tS (fun i e => by omega))
  have T10 := Lib.hid (T9.out.trans (W := fun _ => False) tS (fun _ e => e) (fun i e => .inr (by omega)))
  have RB10 := Lib.hid (RB9.out.turned tS (fun e => by omega))
  have hsz10 := Nat.le_trans hsz9 tS.size
  clear tS X9 R9 T9 RB9
  generalize ((w9).setCell ⟨xb, 5, none⟩ (.int .i64 page)) = w10 at *
  clear x0 x1 x2 x3 x4 x5 x6 x7 x8 x9 x10 xf
  obtain ⟨x0, x1, x2, x3, x4, x5, x6, x7, x8, x9, x10⟩ := RecAt.of_blk (R := (⟨0, work, prev, 0, 6, page, [], [], [], [], []⟩ : Rec)) (S := (⟨⟨none, 0, 0⟩, ⟨none, 0, 0⟩, ⟨none, 0, 0⟩, ⟨none, 0, 0⟩, ⟨none, 0, 0⟩⟩ : RecS)) X10.out
  simp only at x0 x1 x2 x3 x4 x5 x6 x7 x8 x9 x10
  have xf := X10.out.frozen
  refine (H4.out _ R10.out).mono ?_
  rintro e w11 ⟨rfl, hR, t⟩
  have R11 := Lib.hid hR
  have T11 := Lib.hid (T10.out.trans (W := fun _ => False) t (fun _ e => e) (fun i e => .inr (by omega)))
  have RB11 := Lib.hid (RB10.out.turned t (fun e => by omega))
  have X11 := Lib.hid (X10.out.turned t (fun e => by omega))
  have hsz11 := Nat.le_trans hsz10 t.size
  have hmo11 := t.size
  clear hR t R10 T10 RB10 X10
  clear x0 x1 x2 x3 x4 x5 x6 x7 x8 x9 x10 xf
  obtain ⟨x0, x1, x2, x3, x4, x5, x6, x7, x8, x9, x10⟩ := RecAt.of_blk (R := (⟨0, work, prev, 0, 6, page, [], [], [], [], []⟩ : Rec)) (S := (⟨⟨none, 0, 0⟩, ⟨none, 0, 0⟩, ⟨none, 0, 0⟩, ⟨none, 0, 0⟩, ⟨none, 0, 0⟩⟩ : RecS)) X11.out
  simp only at x0 x1 x2 x3 x4 x5 x6 x7 x8 x9 x10
  have xf := X11.out.frozen
  cases hse : s8 with
  | none =>
    rw [hse] at R11
    obtain ⟨Ar, nr, cr, r0, r1⟩ := rd_end R11.out
    obtain ⟨y0, y1, y2, y3, y4, y5, y6, y7, y8, y9, y10⟩ := RecAt.of_blk (R := Rec.zero) (S := RecS.nil) RB11.out
    simp only [Rec.zero, RecS.nil, Sl.nil] at y0 y1 y2 y3 y4 y5 y6 y7 y8 y9 y10
    have yf := RB11.out.frozen
    have hno := Lib.hid (show getR zs = none by rw [HG.out, hse]; exact fin_none _ _)
    clear HG
    go_wp2_with fail
    have tS := ((Turned.refl (fun i => i = xb) w11).setCell (p := ⟨xb, 3, none⟩) (.inl rfl) (.int .i64 next))
    have TS := Lib.hid (T11.out.trans (W := fun _ => False) tS (fun _ e => e) (fun i e => .inr (by omega)))
    have RBS := Lib.hid (RB11.out.turned tS (fun e => by omega))
    generalize (w11.setCell ⟨xb, 3, none⟩ (.int .i64 next)) = ws at *
    obtain ⟨wz, hwz, XZ, tZ⟩ := fin11 (.int .i64 0) (.int .i64 0) (.int .i64 0) (.int .i64 0) (.int .u8 0) (.int .i64 0) (.slice none 0 0) (.slice none 0 0) (.slice none 0 0) (.slice none 0 0) (.slice none 0 0) RBS.out
    rw [hwz]
    clear hwz
    have TZ := TS.out.trans (W := fun _ => False) tZ (fun _ e => e) (fun i e => .inr (by omega))
    obtain ⟨e0, e1, e2, e3, e4, e5, e6, e7, e8, e9, e10⟩ := XZ.cells11
    refine bodyPost_ret (v := .tuple #[.agg #[.int .i64 0, .int .i64 0, .int .i64 0, .int .i64 0, .int .u8 0, .int .i64 0, .slice none 0 0, .slice none 0 0, .slice none 0 0, .slice none 0 0, .slice none 0 0], .int .i64 0, .int .i64 4]) (by simp [results, Tryd.results51, go_sem, e0, e1, e2, e3, e4, e5, e6, e7, e8, e9, e10]) rfl ?_
    exact .inr ⟨hno.out, rfl, TZ⟩
  | some ys =>
    cases ys with
    | cons y ys =>
      rw [hse] at R11
      obtain ⟨Ar, nr, cr, r0, r1, hn1, hn2⟩ := rd_some R11.out
      have hn3 : (0 : Int) < (nr : Int) := by rw [hn1, List.length_cons]; omega
      have hn4 : 0 < nr := by omega
      clear hn1
      obtain ⟨y0, y1, y2, y3, y4, y5, y6, y7, y8, y9, y10⟩ := RecAt.of_blk (R := Rec.zero) (S := RecS.nil) RB11.out
      simp only [Rec.zero, RecS.nil, Sl.nil] at y0 y1 y2 y3 y4 y5 y6 y7 y8 y9 y10
      have yf := RB11.out.frozen
      have hno := Lib.hid (show getR zs = none by rw [HG.out, hse]; exact fin_more _ _ _ _)
      clear HG
      go_wp2_with fail
      have tS := ((Turned.refl (fun i => i = xb) w11).setCell (p := ⟨xb, 3, none⟩) (.inl rfl) (.int .i64 next))
      have TS := Lib.hid (T11.out.trans (W := fun _ => False) tS (fun _ e => e) (fun i e => .inr (by omega)))
      have RBS := Lib.hid (RB11.out.turned tS (fun e => by omega))
      generalize (w11.setCell ⟨xb, 3, none⟩ (.int .i64 next)) = ws at *
      obtain ⟨wz, hwz, XZ, tZ⟩ := fin11 (.int .i64 0) (.int .i64 0) (.int .i64 0) (.int .i64 0) (.int .u8 0) (.int .i64 0) (.slice none 0 0) (.slice none 0 0) (.slice none 0 0) (.slice none 0 0) (.slice none 0 0) RBS.out
      rw [hwz]
      clear hwz
      have TZ := TS.out.trans (W := fun _ => False) tZ (fun _ e => e) (fun i e => .inr (by omega))
      obtain ⟨e0, e1, e2, e3, e4, e5, e6, e7, e8, e9, e10⟩ := XZ.cells11
      refine bodyPost_ret (v := .tuple #[.agg #[.int .i64 0, .int .i64 0, .int .i64 0, .int .i64 0, .int .u8 0, .int .i64 0, .slice none 0 0, .slice none 0 0, .slice none 0 0, .slice none 0 0, .slice none 0 0], .int .i64 0, .int .i64 4]) (by simp [results, Tryd.results51, go_sem, e0, e1, e2, e3, e4, e5, e6, e7, e8, e9, e10]) rfl ?_
      exact .inr ⟨hno.out, rfl, TZ⟩
    | nil =>
      rw [hse] at R11
      obtain ⟨Ar, nr, cr, r0, r1, hn1, hn2⟩ := rd_some R11.out
      obtain rfl : nr = 0 := hn1
      obtain ⟨y0, y1, y2, y3, y4, y5, y6, y7, y8, y9, y10⟩ := RecAt.of_blk (R := Rec.zero) (S := RecS.nil) RB11.out
      simp only [Rec.zero, RecS.nil, Sl.nil] at y0 y1 y2 y3 y4 y5 y6 y7 y8 y9 y10
      have yf := RB11.out.frozen
      go_wp2_with fail
      have tS := ((Turned.refl (fun i => i = xb) w11).setCell (p := ⟨xb, 3, none⟩) (.inl rfl) (.int .i64 next))
      have T12 := Lib.hid (T11.out.trans (W := fun _ => False) tS (fun _ e => e) (fun i e => .inr (by omega)))
      have RB12 := Lib.hid (RB11.out.turned tS (fun e => by omega))
      have X12 : Hid (Blk (w11.setCell ⟨xb, 3, none⟩ (.int .i64 next)) xb 39 (recC (⟨0, work, prev, next, 6, page, [], [], [], [], []⟩ : Rec) (⟨⟨none, 0, 0⟩, ⟨none, 0, 0⟩, ⟨none, 0, 0⟩, ⟨none, 0, 0⟩, ⟨none, 0, 0⟩⟩ : RecS))) := Lib.hid (X11.out.set_ 3 (.int .i64 next))
      generalize (w11.setCell ⟨xb, 3, none⟩ (.int .i64 next)) = w12 at *
      clear tS X11 T11 RB11
      have hOwn : RecOwn w12 w.heap.size (⟨0, work, prev, next, 6, page, [], [], [], [], []⟩ : Rec) (⟨⟨none, 0, 0⟩, ⟨none, 0, 0⟩, ⟨none, 0, 0⟩, ⟨none, 0, 0⟩, ⟨none, 0, 0⟩⟩ : RecS) := ⟨OwnV.nil _, OwnV.nil _, OwnV.nil _, OwnE.nil _ _ _, OwnE.nil _ _ _, (fun g e => by cases e), (fun g e => by cases e), (fun g e => by cases e), (fun g e => by cases e), (fun g e => by cases e), (fun g e => by cases e), (fun g e => by cases e), (fun g e => by cases e), ⟨Nat.zero_le _, Nat.zero_le _, Nat.zero_le _, Nat.zero_le _, Nat.zero_le _⟩⟩
      have hRt := right_any (⟨0, work, prev, next, 6, page, [], [], [], [], []⟩ : Rec) (⟨⟨none, 0, 0⟩, ⟨none, 0, 0⟩, ⟨none, 0, 0⟩, ⟨none, 0, 0⟩, ⟨none, 0, 0⟩⟩ : RecS) w12 hOwn.is
      have HO := Lib.hid hOwn
      unfold recC at hRt
      simp only at hRt
      clear hOwn y0 y1 y2 y3 y4 y5 y6 y7 y8 y9 y10 yf
      obtain ⟨y0, y1, y2, y3, y4, y5, y6, y7, y8, y9, y10⟩ := RecAt.of_blk (R := Rec.zero) (S := RecS.nil) RB12.out
      simp only [Rec.zero, RecS.nil, Sl.nil] at y0 y1 y2 y3 y4 y5 y6 y7 y8 y9 y10
      cases hrr : rightR (⟨0, work, prev, next, 6, page, [], [], [], [], []⟩ : Rec) with
      | false =>
        rw [hrr] at hRt
        refine hRt.mono ?_
        rintro e wq ⟨rfl, tq⟩
        have TQ := Lib.hid (T12.out.and_ tq)
        have RBQ := Lib.hid (RB12.out.turned tq (fun e => e))
        have XQ := Lib.hid (X12.out.turned tq (fun e => e))
        have HOQ := Lib.hid (HO.out.fresh tq)
        clear y0 y1 y2 y3 y4 y5 y6 y7 y8 y9 y10
        clear x0 x1 x2 x3 x4 x5 x6 x7 x8 x9 x10 xf
        obtain ⟨y0, y1, y2, y3, y4, y5, y6, y7, y8, y9, y10⟩ := RecAt.of_blk (R := Rec.zero) (S := RecS.nil) RBQ.out
        simp only [Rec.zero, RecS.nil, Sl.nil] at y0 y1 y2 y3 y4 y5 y6 y7 y8 y9 y10
        have yf := RBQ.out.frozen
        obtain ⟨x0, x1, x2, x3, x4, x5, x6, x7, x8, x9, x10⟩ := RecAt.of_blk (R := (⟨0, work, prev, next, 6, page, [], [], [], [], []⟩ : Rec)) (S := (⟨⟨none, 0, 0⟩, ⟨none, 0, 0⟩, ⟨none, 0, 0⟩, ⟨none, 0, 0⟩, ⟨none, 0, 0⟩⟩ : RecS)) XQ.out
        simp only at x0 x1 x2 x3 x4 x5 x6 x7 x8 x9 x10
        have xf := XQ.out.frozen
        have hno := Lib.hid (show getR zs = none by rw [HG.out, hse]; exact fin_no hrr)
        clear hrr HG tq hRt
        go_wp2_with fail
        obtain ⟨wz, hwz, XZ, tZ⟩ := fin11 (.int .i64 0) (.int .i64 0) (.int .i64 0) (.int .i64 0) (.int .u8 0) (.int .i64 0) (.slice none 0 0) (.slice none 0 0) (.slice none 0 0) (.slice none 0 0) (.slice none 0 0) RBQ.out
        rw [hwz]
        clear hwz
        have TZ := TQ.out.trans (W := fun _ => False) tZ (fun _ e => e) (fun i e => .inr (by omega))
        obtain ⟨e0, e1, e2, e3, e4, e5, e6, e7, e8, e9, e10⟩ := XZ.cells11
        refine bodyPost_ret (v := .tuple #[.agg #[.int .i64 0, .int .i64 0, .int .i64 0, .int .i64 0, .int .u8 0, .int .i64 0, .slice none 0 0, .slice none 0 0, .slice none 0 0, .slice none 0 0, .slice none 0 0], .int .i64 0, .int .i64 4]) (by simp [results, Tryd.results51, go_sem, e0, e1, e2, e3, e4, e5, e6, e7, e8, e9, e10]) rfl ?_
        exact .inr ⟨hno.out, rfl, TZ⟩
      | true =>
        rw [hrr] at hRt
        refine hRt.mono ?_
        rintro e wq ⟨rfl, tq⟩
        have TQ := Lib.hid (T12.out.and_ tq)
        have RBQ := Lib.hid (RB12.out.turned tq (fun e => e))
        have XQ := Lib.hid (X12.out.turned tq (fun e => e))
        have HOQ := Lib.hid (HO.out.fresh tq)
        clear y0 y1 y2 y3 y4 y5 y6 y7 y8 y9 y10
        clear x0 x1 x2 x3 x4 x5 x6 x7 x8 x9 x10 xf
        obtain ⟨y0, y1, y2, y3, y4, y5, y6, y7, y8, y9, y10⟩ := RecAt.of_blk (R := Rec.zero) (S := RecS.nil) RBQ.out
        simp only [Rec.zero, RecS.nil, Sl.nil] at y0 y1 y2 y3 y4 y5 y6 y7 y8 y9 y10
        have yf := RBQ.out.frozen
        obtain ⟨x0, x1, x2, x3, x4, x5, x6, x7, x8, x9, x10⟩ := RecAt.of_blk (R := (⟨0, work, prev, next, 6, page, [], [], [], [], []⟩ : Rec)) (S := (⟨⟨none, 0, 0⟩, ⟨none, 0, 0⟩, ⟨none, 0, 0⟩, ⟨none, 0, 0⟩, ⟨none, 0, 0⟩⟩ : RecS)) XQ.out
        simp only at x0 x1 x2 x3 x4 x5 x6 x7 x8 x9 x10
        have xf := XQ.out.frozen
        have hys := Lib.hid (show getR zs = some ((⟨0, work, prev, next, 6, page, [], [], [], [], []⟩ : Rec), 2 + m) by rw [HG.out, hse]; exact fin_yes hrr)
        clear hrr HG tq hRt
        go_wp2_with fail
        obtain ⟨wz, hwz, XZ, tZ⟩ := fin11 (.int .i64 0) (.int .i64 work) (.int .i64 prev) (.int .i64 next) (.int .u8 6) (.int .i64 page) (.slice none 0 0) (.slice none 0 0) (.slice none 0 0) (.slice none 0 0) (.slice none 0 0) RBQ.out
        rw [hwz]
        clear hwz
        have TZ := TQ.out.trans (W := fun _ => False) tZ (fun _ e => e) (fun i e => .inr (by omega))
        obtain ⟨e0, e1, e2, e3, e4, e5, e6, e7, e8, e9, e10⟩ := XZ.cells11
        refine bodyPost_ret (v := .tuple #[.agg #[.int .i64 0, .int .i64 work, .int .i64 prev, .int .i64 next, .int .u8 6, .int .i64 page, .slice none 0 0, .slice none 0 0, .slice none 0 0, .slice none 0 0, .slice none 0 0], .int .i64 (2 + (m : Int)), .int .i64 0]) (by simp [results, Tryd.results51, go_sem, e0, e1, e2, e3, e4, e5, e6, e7, e8, e9, e10]) rfl ?_
        have HZ : RecOwn wz w.heap.size (⟨0, work, prev, next, 6, page, [], [], [], [], []⟩ : Rec) (⟨⟨none, 0, 0⟩, ⟨none, 0, 0⟩, ⟨none, 0, 0⟩, ⟨none, 0, 0⟩, ⟨none, 0, 0⟩⟩ : RecS) := HOQ.out.moved tZ (fun i e => by omega) RBQ.out (by decide) (by decide) (by decide)
        exact .inl ⟨_, 2 + m, (⟨⟨none, 0, 0⟩, ⟨none, 0, 0⟩, ⟨none, 0, 0⟩, ⟨none, 0, 0⟩, ⟨none, 0, 0⟩⟩ : RecS), hys.out, by rw [Int.natCast_add]; rfl, HZ, TZ⟩
set_option maxRecDepth 100000 in
set_option maxHeartbeats 1000000 in
theorem get_rest (A : Option Addr) (n c : Nat) (zs : List Int) (w : World) (h : BytS w A n c zs) (hb : ∀ z ∈ zs, isByte z) (hnc : n ≤ c) (hc : c ≤ maxLen) (h1 : kindOf zs ≠ 1) (h2 : kindOf zs ≠ 2) (h5 : kindOf zs ≠ 5) (h6 : kindOf zs ≠ 6) : Calls Tryd.prog 51 #[.slice A n c] w (RGet zs w) := by
  have hbS : ∀ ys, (some zs : Option (List Int)) = some ys → ∀ y ∈ ys, isByte y := fun ys e y hy => by injection e with e; subst e; exact hb y hy
  obtain ⟨m, hm, hm2⟩ := numS2_nat (some zs) hbS
  have hG : getR zs = finR m (restS (kindOf zs) (numS 1 (inS m (numS 2 (some zs)).2)).2) := by
    unfold getR getS kindOf
    rw [hm, Int.toNat_natCast]
  have hkd : (numS 1 (inS m (numS 2 (some zs)).2)).1 = kindOf zs := by
    unfold kindOf
    rw [hm, Int.toNat_natCast]
  obtain ⟨kk, hkk, hk255⟩ := numS1_nat (inS m (numS 2 (some zs)).2) (inS_bytes (numS_bytes hbS))
  rw [hkd] at hkk
  rw [hkk] at hG h1 h2 h5 h6
  have hki : (kk : Int) ≤ 255 := by omega
  have k1 : ((kk : Int) == 1) = false := by simpa using h1
  have k2 : ((kk : Int) == 2) = false := by simpa using h2
  have k5 : ((kk : Int) == 5) = false := by simpa using h5
  have k6 : ((kk : Int) == 6) = false := by simpa using h6
  unfold restS onS at hG
  rw [if_neg h5, if_neg h1, if_neg h2, if_neg h6] at hG
  clear h1 h2 h5 h6
  have hcm := hc
  unfold maxLen at hcm
  have hpl : 0 < n → PlA (w.heap.size + 1) A := fun h0 => by
    obtain ⟨b, off, e, hcl⟩ := h.cell h0
    have := World.block_lt_of_cell? w ⟨b, off + 0, none⟩ (hcl 0 h0)
    exact .inr ⟨b, off, e, by simp at this; omega⟩
  have hRB := (Blk.new w 39 #[.int .i64 0, .int .i64 0, .int .i64 0, .int .i64 0, .int .u8 0, .int .i64 0, .slice none 0 0, .slice none 0 0, .slice none 0 0, .slice none 0 0, .slice none 0 0]).alloc (.cells #[.slice A n c, .bool false] 135)
  have hRd : RdBlk ((w.alloc (.cells #[.int .i64 0, .int .i64 0, .int .i64 0, .int .i64 0, .int .u8 0, .int .i64 0, .slice none 0 0, .slice none 0 0, .slice none 0 0, .slice none 0 0, .slice none 0 0] 39)).alloc (.cells #[.slice A n c, .bool false] 135)) (w.heap.size + 1) A n c false := Blk.new_at _ _ _ (by simp)
  have hT := ((Turned.refl (fun _ => False) w).alloc (.cells #[.int .i64 0, .int .i64 0, .int .i64 0, .int .i64 0, .int .u8 0, .int .i64 0, .slice none 0 0, .slice none 0 0, .slice none 0 0, .slice none 0 0, .slice none 0 0] 39)).alloc (.cells #[.slice A n c, .bool false] 135)
  have hs0 : ((w.alloc (.cells #[.int .i64 0, .int .i64 0, .int .i64 0, .int .i64 0, .int .u8 0, .int .i64 0, .slice none 0 0, .slice none 0 0, .slice none 0 0, .slice none 0 0, .slice none 0 0] 39)).alloc (.cells #[.slice A n c, .bool false] 135)).heap.size = w.heap.size + 2 := by simp
  have hN1 : Calls Tryd.prog 71 #[.pointer (some ⟨w.heap.size + 1, 0, none⟩), .int .i64 (2 : Nat)] ((w.alloc (.cells #[.int .i64 0, .int .i64 0, .int .i64 0, .int .i64 0, .int .u8 0, .int .i64 0, .slice none 0 0, .slice none 0 0, .slice none 0 0, .slice none 0 0, .slice none 0 0] 39)).alloc (.cells #[.slice A n c, .bool false] 135)) (NumSPost (w.heap.size + 1) 2 (some zs) ((w.alloc (.cells #[.int .i64 0, .int .i64 0, .int .i64 0, .int .i64 0, .int .u8 0, .int .i64 0, .slice none 0 0, .slice none 0 0, .slice none 0 0, .slice none 0 0, .slice none 0 0] 39)).alloc (.cells #[.slice A n c, .bool false] 135))) := by
    rcases Nat.lt_or_ge n 2 with hlt | hge
    · exact number_by _ 2 (some zs) _ (take_short _ A n c 2 false _ hRd (by omega) (by omega) (.inr hlt) (some zs) (takeS_short (by rw [h.len]; exact hlt))) (by omega) hbS
    · exact number_any _ 2 (some zs) _ ⟨A, n, c, hRd, h.turned hT (fun _ _ _ e => e), hnc, hc, hpl (by omega)⟩ (by omega) hbS
  unfold NumSPost at hN1
  rw [hm] at hN1
  have hb1 := Lib.hid (numS_bytes (k := 2) hbS)
  have hN1' := Lib.hid hN1
  have RB0 := Lib.hid hRB
  have T0 := Lib.hid hT
  have HG := Lib.hid hG
  have HKD := Lib.hid hkd
  clear hN1 hRB hRd hT hG hkd hm hpl h hb hbS
  generalize (numS 2 (some zs)).2 = s1 at *
  go_enter Tryd.func51, Tryd.ntmps51
  go_wp2_with fail
  generalize (w.alloc (.cells #[.int .i64 0, .int .i64 0, .int .i64 0, .int .i64 0, .int .u8 0, .int .i64 0, .slice none 0 0, .slice none 0 0, .slice none 0 0, .slice none 0 0, .slice none 0 0] 39)).alloc (.cells #[.slice A n c, .bool false] 135) = w0 at *
  refine hN1'.out.mono ?_
  rintro e w1 ⟨rfl, hR1, t1⟩
  have R1 := Lib.hid hR1
  have T1 := Lib.hid (T0.out.trans (W := fun _ => False) t1 (fun _ e => e) (fun i e => .inr (by omega)))
  have RB1 := Lib.hid (RB0.out.turned t1 (fun e => by omega))
  clear hR1 t1 T0 RB0 hN1'
  go_wp2_with fail
  refine (take_any (w.heap.size + 1) m s1 w1 R1.out (by omega)).mono ?_
  rintro e w2 ⟨A2, n2, c2, rfl, hy2, hnc2, hc2, hp2, hR2, t2⟩
  have R3 := Lib.hid (isRd_in hy2 hnc2 hc2 hp2 hR2)
  obtain ⟨A3, n3, c3, sh3, hq3⟩ := rd_blk hR2
  have q0 : w2.cell? ⟨w.heap.size + 1, 0, none⟩ = some (.slice A3 n3 c3) := hq3.cell 0
  have f0 := hq3.frozen 0
  have t3 := t2.setCell (p := ⟨w.heap.size + 1, 0, none⟩) (.inl rfl) (.slice A2 n2 c2)
  have T3 := Lib.hid (T1.out.trans (W := fun _ => False) t3 (fun _ e => e) (fun i e => .inr (by omega)))
  have RB3 := Lib.hid (RB1.out.turned t3 (fun e => by omega))
  clear hy2 hnc2 hc2 hp2 hR2 t2 t3 hq3 R1 T1 RB1
  go_wp2_with fail
  generalize w2.setCell ⟨w.heap.size + 1, 0, none⟩ (.slice A2 n2 c2) = w3 at *
  have hN3 := number_any (w.heap.size + 1) 1 (inS m s1) w3 R3.out (by omega) (inS_bytes hb1.out)
  unfold NumSPost at hN3
  rw [HKD.out, hkk] at hN3
  refine hN3.mono ?_
  rintro e w4 ⟨rfl, hR4, t4⟩
  have R4 := Lib.hid hR4
  have T4 := Lib.hid (T3.out.trans (W := fun _ => False) t4 (fun _ e => e) (fun i e => .inr (by omega)))
  have RB4 := Lib.hid (RB3.out.turned t4 (fun e => by omega))
  have hb4 := Lib.hid (numS_bytes (k := 1) (inS_bytes hb1.out (k := m)))
  clear hR4 t4 T3 RB3 R3 q0 f0 hN3 hb1
  generalize (numS 1 (inS m s1)).2 = s4 at *
  clear HKD
  have hxr := R4.out.lt
  have hwr : w.heap.size < w.heap.size + 1 := by omega
  generalize w.heap.size + 1 = r at *
  have H1 := Lib.hid (fun (w' : World) (h : IsRd w' r s4) => number_any r 8 s4 w' h (by omega) hb4.out)
  have hb5 := Lib.hid (numS_bytes (k := 8) hb4.out)
  unfold NumSPost at H1
  generalize (numS 8 s4).1 = work at *
  generalize (numS 8 s4).2 = s5 at *
  clear hb4
  have H2 := Lib.hid (fun (w' : World) (h : IsRd w' r s5) => number_any r 8 s5 w' h (by omega) hb5.out)
  have hb6 := Lib.hid (numS_bytes (k := 8) hb5.out)
  unfold NumSPost at H2
  generalize (numS 8 s5).1 = prev at *
  generalize (numS 8 s5).2 = s6 at *
  clear hb5
  have X5 := Lib.hid (Blk.new w4 39 (recC (⟨0, 0, 0, 0, (kk : Int), 0, [], [], [], [], []⟩ : Rec) (⟨⟨none, 0, 0⟩, ⟨none, 0, 0⟩, ⟨none, 0, 0⟩, ⟨none, 0, 0⟩, ⟨none, 0, 0⟩⟩ : RecS)))
  have t5 := (Turned.refl (fun _ => False) w4).alloc (.cells (recC (⟨0, 0, 0, 0, (kk : Int), 0, [], [], [], [], []⟩ : Rec) (⟨⟨none, 0, 0⟩, ⟨none, 0, 0⟩, ⟨none, 0, 0⟩, ⟨none, 0, 0⟩, ⟨none, 0, 0⟩⟩ : RecS)) 39)
  have hsz5 : w4.heap.size + 1 ≤ (w4.alloc (.cells (recC (⟨0, 0, 0, 0, (kk : Int), 0, [], [], [], [], []⟩ : Rec) (⟨⟨none, 0, 0⟩, ⟨none, 0, 0⟩, ⟨none, 0, 0⟩, ⟨none, 0, 0⟩, ⟨none, 0, 0⟩⟩ : RecS)) 39)).heap.size := by simp
  have R5 := Lib.hid (R4.out.fresh t5)
  have T5 := Lib.hid (T4.out.and_ t5)
  have RB5 := Lib.hid (RB4.out.turned t5 (fun e => e))
  clear t5 R4 T4 RB4
  unfold recC at X5 hsz5 R5 T5 RB5
  simp only at X5 hsz5 R5 T5 RB5
  go_wp2_with fail
  generalize w4.alloc (.cells #[.int .i64 0, .int .i64 0, .int .i64 0, .int .i64 0, .int .u8 (kk : Int), .int .i64 0, .slice none 0 0, .slice none 0 0, .slice none 0 0, .slice none 0 0, .slice none 0 0] 39) = w5 at *
  generalize w4.heap.size = xb at *
  have hne1 : ¬ (r = xb) := by omega
  have hne2 : ¬ (xb = r) := by omega
  have hne3 : ¬ (w.heap.size = xb) := by omega
  have hne4 : ¬ (xb = w.heap.size) := by omega
  have hne5 : ¬ (w.heap.size = r) := by omega
  have hne6 : ¬ (r = w.heap.size) := by omega
  have RB5 : Hid (Blk w5 w.heap.size 39 (recC Rec.zero RecS.nil)) := RB5
  obtain ⟨x0, x1, x2, x3, x4, x5, x6, x7, x8, x9, x10⟩ := RecAt.of_blk (R := (⟨0, 0, 0, 0, (kk : Int), 0, [], [], [], [], []⟩ : Rec)) (S := (⟨⟨none, 0, 0⟩, ⟨none, 0, 0⟩, ⟨none, 0, 0⟩, ⟨none, 0, 0⟩, ⟨none, 0, 0⟩⟩ : RecS)) X5.out
  simp only at x0 x1 x2 x3 x4 x5 x6 x7 x8 x9 x10
  have xf := X5.out.frozen
  refine (H1.out _ R5.out).mono ?_
  rintro e w6 ⟨rfl, hR, t⟩
  have R6 := Lib.hid hR
  have T6 := Lib.hid (T5.out.trans (W := fun _ => False) t (fun _ e => e) (fun i e => .inr (by omega)))
  have RB6 := Lib.hid (RB5.out.turned t (fun e => by omega))
  have X6 := Lib.hid (X5.out.turned t (fun e => by omega))
  have hsz6 := Nat.le_trans hsz5 t.size
  have hmo6 := t.size
  clear hR t R5 T5 RB5 X5
  clear x0 x1 x2 x3 x4 x5 x6 x7 x8 x9 x10 xf
  obtain ⟨x0, x1, x2, x3, x4, x5, x6, x7, x8, x9, x10⟩ := RecAt.of_blk (R := (⟨0, 0, 0, 0, (kk : Int), 0, [], [], [], [], []⟩ : Rec)) (S := (⟨⟨none, 0, 0⟩, ⟨none, 0, 0⟩, ⟨none, 0, 0⟩, ⟨none, 0, 0⟩, ⟨none, 0, 0⟩⟩ : RecS)) X6.out
  simp only at x0 x1 x2 x3 x4 x5 x6 x7 x8 x9 x10
  have xf := X6.out.frozen
  go_wp2_with fail
  refine (H2.out _ R6.out).mono ?_
  rintro e w7 ⟨rfl, hR, t⟩
  have R7 := Lib.hid hR
  have T7 := Lib.hid (T6.out.trans (W := fun _ => False) t (fun _ e => e) (fun i e => .inr (by omega)))
  have RB7 := Lib.hid (RB6.out.turned t (fun e => by omega))
  have X7 := Lib.hid (X6.out.turned t (fun e => by omega))
  have hsz7 := Nat.le_trans hsz6 t.size
  have hmo7 := t.size
  clear hR t R6 T6 RB6 X6
  clear x0 x1 x2 x3 x4 x5 x6 x7 x8 x9 x10 xf
  obtain ⟨x0, x1, x2, x3, x4, x5, x6, x7, x8, x9, x10⟩ := RecAt.of_blk (R := (⟨0, 0, 0, 0, (kk : Int), 0, [], [], [], [], []⟩ : Rec)) (S := (⟨⟨none, 0, 0⟩, ⟨none, 0, 0⟩, ⟨none, 0, 0⟩, ⟨none, 0, 0⟩, ⟨none, 0, 0⟩⟩ : RecS)) X7.out
  simp only at x0 x1 x2 x3 x4 x5 x6 x7 x8 x9 x10
  have xf := X7.out.frozen
  cases hse : s6 with
  | none =>
    rw [hse] at R7
    obtain ⟨Ar, nr, cr, r0, r1⟩ := rd_end R7.out
    obtain ⟨y0, y1, y2, y3, y4, y5, y6, y7, y8, y9, y10⟩ := RecAt.of_blk (R := Rec.zero) (S := RecS.nil) RB7.out
    simp only [Rec.zero, RecS.nil, Sl.nil] at y0 y1 y2 y3 y4 y5 y6 y7 y8 y9 y10
    have yf := RB7.out.frozen
    have hno := Lib.hid (show getR zs = none by rw [HG.out, hse]; exact fin_none _ _)
    clear HG
    go_wp2_with fail
    have tS := (((Turned.refl (fun i => i = xb) w7).setCell (p := ⟨xb, 1, none⟩) (.inl rfl) (.int .i64 work)).setCell (p := ⟨xb, 2, none⟩) (.inl rfl) (.int .i64 prev))
    have TS := Lib.hid (T7.out.trans (W := fun _ => False) tS (fun _ e => e) (fun i e => .inr (by omega)))
    have RBS := Lib.hid (RB7.out.turned tS (fun e => by omega))
    generalize ((w7.setCell ⟨xb, 1, none⟩ (.int .i64 work)).setCell ⟨xb, 2, none⟩ (.int .i64 prev)) = ws at *
    obtain ⟨wz, hwz, XZ, tZ⟩ := fin11 (.int .i64 0) (.int .i64 0) (.int .i64 0) (.int .i64 0) (.int .u8 0) (.int .i64 0) (.slice none 0 0) (.slice none 0 0) (.slice none 0 0) (.slice none 0 0) (.slice none 0 0) RBS.out
    rw [hwz]
    clear hwz
    have TZ := TS.out.trans (W := fun _ => False) tZ (fun _ e => e) (fun i e => .inr (by omega))
    obtain ⟨e0, e1, e2, e3, e4, e5, e6, e7, e8, e9, e10⟩ := XZ.cells11
    refine bodyPost_ret (v := .tuple #[.agg #[.int .i64 0, .int .i64 0, .int .i64 0, .int .i64 0, .int .u8 0, .int .i64 0, .slice none 0 0, .slice none 0 0, .slice none 0 0, .slice none 0 0, .slice none 0 0], .int .i64 0, .int .i64 4]) (by simp [results, Tryd.results51, go_sem, e0, e1, e2, e3, e4, e5, e6, e7, e8, e9, e10]) rfl ?_
    exact .inr ⟨hno.out, rfl, TZ⟩
  | some ys =>
    cases ys with
    | cons y ys =>
      rw [hse] at R7
      obtain ⟨Ar, nr, cr, r0, r1, hn1, hn2⟩ := rd_some R7.out
      have hn3 : (0 : Int) < (nr : Int) := by rw [hn1, List.length_cons]; omega
      have hn4 : 0 < nr := by omega
      clear hn1
      obtain ⟨y0, y1, y2, y3, y4, y5, y6, y7, y8, y9, y10⟩ := RecAt.of_blk (R := Rec.zero) (S := RecS.nil) RB7.out
      simp only [Rec.zero, RecS.nil, Sl.nil] at y0 y1 y2 y3 y4 y5 y6 y7 y8 y9 y10
      have yf := RB7.out.frozen
      have hno := Lib.hid (show getR zs = none by rw [HG.out, hse]; exact fin_more _ _ _ _)
      clear HG
      go_wp2_with fail
      have tS := (((Turned.refl (fun i => i = xb) w7).setCell (p := ⟨xb, 1, none⟩) (.inl rfl) (.int .i64 work)).setCell (p := ⟨xb, 2, none⟩) (.inl rfl) (.int .i64 prev))
      have TS := Lib.hid (T7.out.trans (W := fun _ => False) tS (fun _ e => e) (fun i e => .inr (by omega)))
      have RBS := Lib.hid (RB7.out.turned tS (fun e => by omega))
      generalize ((w7.setCell ⟨xb, 1, none⟩ (.int .i64 work)).setCell ⟨xb, 2, none⟩ (.int .i64 prev)) = ws at *
      obtain ⟨wz, hwz, XZ, tZ⟩ := fin11 (.int .i64 0) (.int .i64 0) (.int .i64 0) (.int .i64 0) (.int .u8 0) (.int .i64 0) (.slice none 0 0) (.slice none 0 0) (.slice none 0 0) (.slice none 0 0) (.slice none 0 0) RBS.out
      rw [hwz]
      clear hwz
      have TZ := TS.out.trans (W := fun _ => False) tZ (fun _ e => e) (fun i e => .inr (by omega))
      obtain ⟨e0, e1, e2, e3, e4, e5, e6, e7, e8, e9, e10⟩ := XZ.cells11
      refine bodyPost_ret (v := .tuple #[.agg #[.int .i64 0, .int .i64 0, .int .i64 0, .int .i64 0, .int .u8 0, .int .i64 0, .slice none 0 0, .slice none 0 0, .slice none 0 0, .slice none 0 0, .slice none 0 0], .int .i64 0, .int .i64 4]) (by simp [results, Tryd.results51, go_sem, e0, e1, e2, e3, e4, e5, e6, e7, e8, e9, e10]) rfl ?_
      exact .inr ⟨hno.out, rfl, TZ⟩
    | nil =>
      rw [hse] at R7
      obtain ⟨Ar, nr, cr, r0, r1, hn1, hn2⟩ := rd_some R7.out
      obtain rfl : nr = 0 := hn1
      obtain ⟨y0, y1, y2, y3, y4, y5, y6, y7, y8, y9, y10⟩ := RecAt.of_blk (R := Rec.zero) (S := RecS.nil) RB7.out
      simp only [Rec.zero, RecS.nil, Sl.nil] at y0 y1 y2 y3 y4 y5 y6 y7 y8 y9 y10
      have yf := RB7.out.frozen
      go_wp2_with fail
      have tS := (((Turned.refl (fun i => i = xb) w7).setCell (p := ⟨xb, 1, none⟩) (.inl rfl) (.int .i64 work)).setCell (p := ⟨xb, 2, none⟩) (.inl rfl) (.int .i64 prev))
      have T8 := Lib.hid (T7.out.trans (W := fun _ => False) tS (fun _ e => e) (fun i e => .inr (by omega)))
      have RB8 := Lib.hid (RB7.out.turned tS (fun e => by omega))
      have X8 : Hid (Blk ((w7.setCell ⟨xb, 1, none⟩ (.int .i64 work)).setCell ⟨xb, 2, none⟩ (.int .i64 prev)) xb 39 (recC (⟨0, work, prev, 0, (kk : Int), 0, [], [], [], [], []⟩ : Rec) (⟨⟨none, 0, 0⟩, ⟨none, 0, 0⟩, ⟨none, 0, 0⟩, ⟨none, 0, 0⟩, ⟨none, 0, 0⟩⟩ : RecS))) := Lib.hid ((X7.out.set_ 1 (.int .i64 work)).set_ 2 (.int .i64 prev))
      generalize ((w7.setCell ⟨xb, 1, none⟩ (.int .i64 work)).setCell ⟨xb, 2, none⟩ (.int .i64 prev)) = w8 at *
      clear tS X7 T7 RB7
      have hOwn : RecOwn w8 w.heap.size (⟨0, work, prev, 0, (kk : Int), 0, [], [], [], [], []⟩ : Rec) (⟨⟨none, 0, 0⟩, ⟨none, 0, 0⟩, ⟨none, 0, 0⟩, ⟨none, 0, 0⟩, ⟨none, 0, 0⟩⟩ : RecS) := ⟨OwnV.nil _, OwnV.nil _, OwnV.nil _, OwnE.nil _ _ _, OwnE.nil _ _ _, (fun g e => by cases e), (fun g e => by cases e), (fun g e => by cases e), (fun g e => by cases e), (fun g e => by cases e), (fun g e => by cases e), (fun g e => by cases e), (fun g e => by cases e), ⟨Nat.zero_le _, Nat.zero_le _, Nat.zero_le _, Nat.zero_le _, Nat.zero_le _⟩⟩
      have hRt := right_any (⟨0, work, prev, 0, (kk : Int), 0, [], [], [], [], []⟩ : Rec) (⟨⟨none, 0, 0⟩, ⟨none, 0, 0⟩, ⟨none, 0, 0⟩, ⟨none, 0, 0⟩, ⟨none, 0, 0⟩⟩ : RecS) w8 hOwn.is
      have HO := Lib.hid hOwn
      unfold recC at hRt
      simp only at hRt
      clear hOwn y0 y1 y2 y3 y4 y5 y6 y7 y8 y9 y10 yf
      obtain ⟨y0, y1, y2, y3, y4, y5, y6, y7, y8, y9, y10⟩ := RecAt.of_blk (R := Rec.zero) (S := RecS.nil) RB8.out
      simp only [Rec.zero, RecS.nil, Sl.nil] at y0 y1 y2 y3 y4 y5 y6 y7 y8 y9 y10
      cases hrr : rightR (⟨0, work, prev, 0, (kk : Int), 0, [], [], [], [], []⟩ : Rec) with
      | false =>
        rw [hrr] at hRt
        refine hRt.mono ?_
        rintro e wq ⟨rfl, tq⟩
        have TQ := Lib.hid (T8.out.and_ tq)
        have RBQ := Lib.hid (RB8.out.turned tq (fun e => e))
        have XQ := Lib.hid (X8.out.turned tq (fun e => e))
        have HOQ := Lib.hid (HO.out.fresh tq)
        clear y0 y1 y2 y3 y4 y5 y6 y7 y8 y9 y10
        clear x0 x1 x2 x3 x4 x5 x6 x7 x8 x9 x10 xf
        obtain ⟨y0, y1, y2, y3, y4, y5, y6, y7, y8, y9, y10⟩ := RecAt.of_blk (R := Rec.zero) (S := RecS.nil) RBQ.out
        simp only [Rec.zero, RecS.nil, Sl.nil] at y0 y1 y2 y3 y4 y5 y6 y7 y8 y9 y10
        have yf := RBQ.out.frozen
        obtain ⟨x0, x1, x2, x3, x4, x5, x6, x7, x8, x9, x10⟩ := RecAt.of_blk (R := (⟨0, work, prev, 0, (kk : Int), 0, [], [], [], [], []⟩ : Rec)) (S := (⟨⟨none, 0, 0⟩, ⟨none, 0, 0⟩, ⟨none, 0, 0⟩, ⟨none, 0, 0⟩, ⟨none, 0, 0⟩⟩ : RecS)) XQ.out
        simp only at x0 x1 x2 x3 x4 x5 x6 x7 x8 x9 x10
        have xf := XQ.out.frozen
        have hno := Lib.hid (show getR zs = none by rw [HG.out, hse]; exact fin_no hrr)
        clear hrr HG tq hRt
        go_wp2_with fail
        obtain ⟨wz, hwz, XZ, tZ⟩ := fin11 (.int .i64 0) (.int .i64 0) (.int .i64 0) (.int .i64 0) (.int .u8 0) (.int .i64 0) (.slice none 0 0) (.slice none 0 0) (.slice none 0 0) (.slice none 0 0) (.slice none 0 0) RBQ.out
        rw [hwz]
        clear hwz
        have TZ := TQ.out.trans (W := fun _ => False) tZ (fun _ e => e) (fun i e => .inr (by omega))
        obtain ⟨e0, e1, e2, e3, e4, e5, e6, e7, e8, e9, e10⟩ := XZ.cells11
        refine bodyPost_ret (v := .tuple #[.agg #[.int .i64 0, .int .i64 0, .int .i64 0, .int .i64 0, .int .u8 0, .int .i64 0, .slice none 0 0, .slice none 0 0, .slice none 0 0, .slice none 0 0, .slice none 0 0], .int .i64 0, .int .i64 4]) (by simp [results, Tryd.results51, go_sem, e0, e1, e2, e3, e4, e5, e6, e7, e8, e9, e10]) rfl ?_
        exact .inr ⟨hno.out, rfl, TZ⟩
      | true =>
        rw [hrr] at hRt
        refine hRt.mono ?_
        rintro e wq ⟨rfl, tq⟩
        have TQ := Lib.hid (T8.out.and_ tq)
        have RBQ := Lib.hid (RB8.out.turned tq (fun e => e))
        have XQ := Lib.hid (X8.out.turned tq (fun e => e))
        have HOQ := Lib.hid (HO.out.fresh tq)
        clear y0 y1 y2 y3 y4 y5 y6 y7 y8 y9 y10
        clear x0 x1 x2 x3 x4 x5 x6 x7 x8 x9 x10 xf
        obtain ⟨y0, y1, y2, y3, y4, y5, y6, y7, y8, y9, y10⟩ := RecAt.of_blk (R := Rec.zero) (S := RecS.nil) RBQ.out
        simp only [Rec.zero, RecS.nil, Sl.nil] at y0 y1 y2 y3 y4 y5 y6 y7 y8 y9 y10
        have yf := RBQ.out.frozen
        obtain ⟨x0, x1, x2, x3, x4, x5, x6, x7, x8, x9, x10⟩ := RecAt.of_blk (R := (⟨0, work, prev, 0, (kk : Int), 0, [], [], [], [], []⟩ : Rec)) (S := (⟨⟨none, 0, 0⟩, ⟨none, 0, 0⟩, ⟨none, 0, 0⟩, ⟨none, 0, 0⟩, ⟨none, 0, 0⟩⟩ : RecS)) XQ.out
        simp only at x0 x1 x2 x3 x4 x5 x6 x7 x8 x9 x10
        have xf := XQ.out.frozen
        have hys := Lib.hid (show getR zs = some ((⟨0, work, prev, 0, (kk : Int), 0, [], [], [], [], []⟩ : Rec), 2 + m) by rw [HG.out, hse]; exact fin_yes hrr)
        clear hrr HG tq hRt
        go_wp2_with fail
        obtain ⟨wz, hwz, XZ, tZ⟩ := fin11 (.int .i64 0) (.int .i64 work) (.int .i64 prev) (.int .i64 0) (.int .u8 (kk : Int)) (.int .i64 0) (.slice none 0 0) (.slice none 0 0) (.slice none 0 0) (.slice none 0 0) (.slice none 0 0) RBQ.out
        rw [hwz]
        clear hwz
        have TZ := TQ.out.trans (W := fun _ => False) tZ (fun _ e => e) (fun i e => .inr (by omega))
        obtain ⟨e0, e1, e2, e3, e4, e5, e6, e7, e8, e9, e10⟩ := XZ.cells11
        refine bodyPost_ret (v := .tuple #[.agg #[.int .i64 0, .int .i64 work, .int .i64 prev, .int .i64 0, .int .u8 (kk : Int), .int .i64 0, .slice none 0 0, .slice none 0 0, .slice none 0 0, .slice none 0 0, .slice none 0 0], .int .i64 (2 + (m : Int)), .int .i64 0]) (by simp [results, Tryd.results51, go_sem, e0, e1, e2, e3, e4, e5, e6, e7, e8, e9, e10]) rfl ?_
        have HZ : RecOwn wz w.heap.size (⟨0, work, prev, 0, (kk : Int), 0, [], [], [], [], []⟩ : Rec) (⟨⟨none, 0, 0⟩, ⟨none, 0, 0⟩, ⟨none, 0, 0⟩, ⟨none, 0, 0⟩, ⟨none, 0, 0⟩⟩ : RecS) := HOQ.out.moved tZ (fun i e => by omega) RBQ.out (by decide) (by decide) (by decide)
        exact .inl ⟨_, 2 + m, (⟨⟨none, 0, 0⟩, ⟨none, 0, 0⟩, ⟨none, 0, 0⟩, ⟨none, 0, 0⟩, ⟨none, 0, 0⟩⟩ : RecS), hys.out, by rw [Int.natCast_add]; rfl, HZ, TZ⟩
theorem rget_any (A : Option Addr) (n c : Nat) (zs : List Int) (w : World) (h : BytS w A n c zs) (hb : ∀ z ∈ zs, isByte z) (hnc : n ≤ c) (hc : c ≤ maxLen) : Calls Tryd.prog 51 #[.slice A n c] w (RGet zs w) := by
  by_cases h1 : kindOf zs = 1
  · exact get_1 A n c zs w h hb hnc hc h1
  · by_cases h2 : kindOf zs = 2
    · exact get_2 A n c zs w h hb hnc hc h2
    · by_cases h5 : kindOf zs = 5
      · exact get_5 A n c zs w h hb hnc hc h5
      · by_cases h6 : kindOf zs = 6
        · exact get_6 A n c zs w h hb hnc hc h6
        · exact get_rest A n c zs w h hb hnc hc h1 h2 h5 h6
end Go.Proofs.YtfheikmjjijdpaaDoor

