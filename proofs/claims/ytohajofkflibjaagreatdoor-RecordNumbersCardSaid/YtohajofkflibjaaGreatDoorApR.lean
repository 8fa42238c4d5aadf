/-
  ApartRecords over two rows of one record each, whose lists lie in memory of their own.
-/
import Derived.Test.YtohajofkflibjaaGreatDoorApD
import Derived.Test.YtohajofkflibjaaGreatDoorAp2
namespace Go.Proofs.YtohajofkflibjaaGreatDoor
open Go.RowKit Go.Maps
set_option linter.unusedVariables false
set_option linter.unusedSimpArgs false

def rowsB (S : RecS) : List Value := [.slice S.K.A S.K.n S.K.c] ++ [.slice S.O.A S.O.n S.O.c] ++ [.slice S.N.A S.N.n S.N.c]
/-- What the loop has put in after k of the two rows. -/
def upTo (k : Nat) (x y : List Value) : List Value := if k = 0 then [] else if k = 1 then x else x ++ y
def AptR (ga gc : Nat) (S1 S2 : RecS) (w : World) (b : Nat) (i : Value) (wr : World) : Prop := ∃ k : Nat, k ≤ 2 ∧ i = .int .i64 k ∧
  BagIs wr b w.heap.size (upTo k (rowsB S1) (rowsB S2)) (upTo k [.slice S1.D.A S1.D.n S1.D.c] [.slice S2.D.A S2.D.n S2.D.c]) (upTo k [.slice S1.P.A S1.P.n S1.P.c] [.slice S2.P.A S2.P.n S2.P.c]) (upTo k [.slice (some ⟨ga, 0, none⟩) 1 1] [.slice (some ⟨gc, 0, none⟩) 1 1]) ∧ Turned (fun _ => False) w wr
theorem bag_new (w : World) (b s : Nat) (hb : Blk w b 105 (bag4 (.slice none 0 0) (.slice none 0 0) (.slice none 0 0) (.slice none 0 0))) : BagIs w b s [] [] [] [] := ⟨_, _, _, _, hb, World.ownsRow_nil _ _ _ _, World.ownsRow_nil _ _ _ _, World.ownsRow_nil _ _ _ _, World.ownsRow_nil _ _ _ _⟩
/-- The rows of a list in the bag, as FlE wants them. -/
theorem bag_rows {w : World} {s T q SL : Nat} {v : Value} {xs : List Value} (h : w.ownsRow s SL 1 v xs.length xs) (h0 : 0 < xs.length) (A : Nat → Option Addr) (n c : Nat → Nat) (Z : Nat → List Value) (hx : ∀ k, k < xs.length → xs[k]? = some (.slice (A k) (n k) (c k))) (hown : ∀ k, k < xs.length → OwnE w T q (A k) (n k) (c k) (Z k))
    (hap : ∀ j k, j < xs.length → k < xs.length → j ≠ k → ∀ g, A j = some ⟨g, 0, none⟩ → A k ≠ some ⟨g, 0, none⟩) (ty : SL ≠ T) : ∃ L cap, v = .slice (some ⟨L, 0, none⟩) xs.length cap ∧ FlE T q SL w L xs.length A n c Z := by
  rcases h.2 with ⟨_, e⟩ | ⟨g, cap, cur, rfl, _, h2, _, _, hs, htk⟩
  · omega
  · refine ⟨g, cap, rfl, ⟨cur, h2, fun k hk => ?_⟩, hown, hap, ty⟩
    have := hx k hk
    rw [← htk, List.getElem?_take, if_pos (by omega)] at this
    simpa using this
theorem bag_rowsB {w : World} {s : Nat} {v : Value} {xs : List Value} (h : w.ownsRow s 23 1 v xs.length xs) (h0 : 0 < xs.length) (A : Nat → Option Addr) (n c : Nat → Nat) (Z : Nat → List Int) (hx : ∀ k, k < xs.length → xs[k]? = some (.slice (A k) (n k) (c k))) (hown : ∀ k, k < xs.length → OwnV w (A k) (n k) (c k) (Z k))
    (hap : ∀ j k, j < xs.length → k < xs.length → j ≠ k → ∀ g, A j = some ⟨g, 0, none⟩ → A k ≠ some ⟨g, 0, none⟩) : ∃ L cap, v = .slice (some ⟨L, 0, none⟩) xs.length cap ∧ Fl w L xs.length A n c Z := by
  rcases h.2 with ⟨_, e⟩ | ⟨g, cap, cur, rfl, _, h2, _, _, hs, htk⟩
  · omega
  · refine ⟨g, cap, rfl, ⟨cur, h2, fun k hk => ?_⟩, hown, hap⟩
    have := hx k hk
    rw [← htk, List.getElem?_take, if_pos (by omega)] at this
    simpa using this
/-- What two rows of six lists are: bytes. -/
def sl6 (S1 S2 : RecS) (k : Nat) : Sl := match k with | 0 => S1.K | 1 => S1.O | 2 => S1.N | 3 => S2.K | 4 => S2.O | _ => S2.N
def zs6 (R1 R2 : Rec) (k : Nat) : List Int := match k with | 0 => R1.key | 1 => R1.old | 2 => R1.new | 3 => R2.key | 4 => R2.old | _ => R2.new
structure RecLt (S : RecS) (B : Nat) : Prop where
  k : ∀ g, S.K.A = some ⟨g, 0, none⟩ → g < B
  o : ∀ g, S.O.A = some ⟨g, 0, none⟩ → g < B
  n : ∀ g, S.N.A = some ⟨g, 0, none⟩ → g < B
  d : ∀ g, S.D.A = some ⟨g, 0, none⟩ → g < B
  p : ∀ g, S.P.A = some ⟨g, 0, none⟩ → g < B
theorem RecOwn.lt_ {w : World} {B : Nat} {R : Rec} {S : RecS} (h : RecOwn w B R S) : RecLt S w.heap.size :=
  ⟨fun g e => h.key.lt e, fun g e => h.old.lt e, fun g e => h.new.lt e, fun g e => h.dirty.lt e, fun g e => h.opn.lt e⟩
section
variable {w : World} {B1 B2 : Nat} {R1 R2 : Rec} {S1 S2 : RecS}
theorem six_own (h1 : RecOwn w B1 R1 S1) (h2 : RecOwn w B2 R2 S2) (k : Nat) (hk : k < 6) : OwnV w (sl6 S1 S2 k).A (sl6 S1 S2 k).n (sl6 S1 S2 k).c (zs6 R1 R2 k) := by
  rcases (show k = 0 ∨ k = 1 ∨ k = 2 ∨ k = 3 ∨ k = 4 ∨ k = 5 by omega) with rfl | rfl | rfl | rfl | rfl | rfl
  · exact h1.key
  · exact h1.old
  · exact h1.new
  · exact h2.key
  · exact h2.old
  · exact h2.new
theorem six_few (h1 : RecOwn w B1 R1 S1) (h2 : RecOwn w B2 R2 S2) (k : Nat) (hk : k < 6) : (sl6 S1 S2 k).n ≤ 1000000 := by
  rcases (show k = 0 ∨ k = 1 ∨ k = 2 ∨ k = 3 ∨ k = 4 ∨ k = 5 by omega) with rfl | rfl | rfl | rfl | rfl | rfl
  · exact h1.few.1
  · exact h1.few.2.1
  · exact h1.few.2.2.1
  · exact h2.few.1
  · exact h2.few.2.1
  · exact h2.few.2.2.1
theorem six_apart (h1 : RecOwn w B1 R1 S1) (h2 : RecOwn w B2 R2 S2) (hl : RecLt S1 B2) (j k : Nat) (hj : j < 6) (hk : k < 6) (hjk : j ≠ k) (g : Nat) (e : (sl6 S1 S2 j).A = some ⟨g, 0, none⟩) : (sl6 S1 S2 k).A ≠ some ⟨g, 0, none⟩ := by
  intro e2
  rcases (show j = 0 ∨ j = 1 ∨ j = 2 ∨ j = 3 ∨ j = 4 ∨ j = 5 by omega) with rfl | rfl | rfl | rfl | rfl | rfl <;>
  rcases (show k = 0 ∨ k = 1 ∨ k = 2 ∨ k = 3 ∨ k = 4 ∨ k = 5 by omega) with rfl | rfl | rfl | rfl | rfl | rfl <;>
  simp only [sl6] at e e2 <;>
  first
  | exact hjk rfl
  | exact h1.ko g e e2
  | exact h1.ko g e2 e
  | exact h1.kn g e e2
  | exact h1.kn g e2 e
  | exact h1.on g e e2
  | exact h1.on g e2 e
  | exact h2.ko g e e2
  | exact h2.ko g e2 e
  | exact h2.kn g e e2
  | exact h2.kn g e2 e
  | exact h2.on g e e2
  | exact h2.on g e2 e
  | (have a1 := hl.k g; have a2 := hl.o g; have a3 := hl.n g; have b1 := h2.kB g; have b2 := h2.oB g; have b3 := h2.nB g
     simp only [e, e2, forall_const] at a1 a2 a3 b1 b2 b3
     omega)
end
/-- apart on the bag of two records' rows. -/
theorem apartBag_any {w : World} {b s ga gc B1 B2 : Nat} {R1 R2 : Rec} {S1 S2 : RecS} (h : BagIs w b s (rowsB S1 ++ rowsB S2) ([.slice S1.D.A S1.D.n S1.D.c] ++ [.slice S2.D.A S2.D.n S2.D.c]) ([.slice S1.P.A S1.P.n S1.P.c] ++ [.slice S2.P.A S2.P.n S2.P.c]) ([.slice (some ⟨ga, 0, none⟩) 1 1] ++ [.slice (some ⟨gc, 0, none⟩) 1 1]))
    (h1 : RecOwn w B1 R1 S1) (h2 : RecOwn w B2 R2 S2) (hl : RecLt S1 B2) (ha : Blk w ga 29 (recC R1 S1)) (hc : Blk w gc 29 (recC R2 S2)) (hne : ga ≠ gc) (B : Nat) (hB1 : B ≤ B1) (hB2 : B ≤ B2) (hga : B ≤ ga) (hgc : B ≤ gc) :
    Calls Tryz.prog 52 #[.pointer (some ⟨b, 0, none⟩)] w (fun e w' => e = .returned (.bool true) ∧ Turned (fun g => B ≤ g) w w') := by
  obtain ⟨vb, vd, vo, vr, hb, o1, o2, o3, o4⟩ := h
  obtain ⟨LB, dB, rfl, fB⟩ := bag_rowsB (w := w) o1 (by simp [rowsB]) (fun k => (sl6 S1 S2 k).A) (fun k => (sl6 S1 S2 k).n) (fun k => (sl6 S1 S2 k).c) (zs6 R1 R2) (fun k hk => by
    simp [rowsB] at hk
    rcases (show k = 0 ∨ k = 1 ∨ k = 2 ∨ k = 3 ∨ k = 4 ∨ k = 5 by omega) with rfl | rfl | rfl | rfl | rfl | rfl <;> rfl) (fun k hk => six_own h1 h2 k (by simpa [rowsB] using hk)) (fun j k hj hk hjk g e => six_apart h1 h2 hl j k (by simpa [rowsB] using hj) (by simpa [rowsB] using hk) hjk g e)
  obtain ⟨LD, dD, rfl, fD⟩ := bag_rows (w := w) (T := 52) (q := 2) o2 (by simp) (two S1.D.A S2.D.A) (two S1.D.n S2.D.n) (two S1.D.c S2.D.c) (two (pairC R1.dirty) (pairC R2.dirty)) (fun k hk => by
    simp at hk
    rcases (show k = 0 ∨ k = 1 by omega) with rfl | rfl <;> rfl) (fun k hk => by
    simp at hk
    rcases (show k = 0 ∨ k = 1 by omega) with rfl | rfl
    · exact h1.dirty
    · exact h2.dirty) (fun j k hj hk hjk g e e2 => by
    simp at hj hk
    rcases (show j = 0 ∨ j = 1 by omega) with rfl | rfl <;> rcases (show k = 0 ∨ k = 1 by omega) with rfl | rfl <;> simp only [two_0, two_1] at e e2
    · exact hjk rfl
    · have := hl.d g e; have := h2.dB g e2; omega
    · have := hl.d g e2; have := h2.dB g e; omega
    · exact hjk rfl) (by decide)
  obtain ⟨LO, dO, rfl, fO⟩ := bag_rows (w := w) (T := 54) (q := 2) o3 (by simp) (two S1.P.A S2.P.A) (two S1.P.n S2.P.n) (two S1.P.c S2.P.c) (two (pairC R1.opn) (pairC R2.opn)) (fun k hk => by
    simp at hk
    rcases (show k = 0 ∨ k = 1 by omega) with rfl | rfl <;> rfl) (fun k hk => by
    simp at hk
    rcases (show k = 0 ∨ k = 1 by omega) with rfl | rfl
    · exact h1.opn
    · exact h2.opn) (fun j k hj hk hjk g e e2 => by
    simp at hj hk
    rcases (show j = 0 ∨ j = 1 by omega) with rfl | rfl <;> rcases (show k = 0 ∨ k = 1 by omega) with rfl | rfl <;> simp only [two_0, two_1] at e e2
    · exact hjk rfl
    · have := hl.p g e; have := h2.pB g e2; omega
    · have := hl.p g e2; have := h2.pB g e; omega
    · exact hjk rfl) (by decide)
  have own1 : ∀ {g : Nat} {R : Rec} {S : RecS}, Blk w g 29 (recC R S) → OwnE w 29 11 (some ⟨g, 0, none⟩) 1 1 (recC R S).toList := fun hb => ⟨rfl, .inr ⟨_, _, _, rfl, Nat.zero_le _, hb, Nat.le_refl _, by unfold maxLen; omega, rfl, rfl⟩⟩
  obtain ⟨LR, dR, rfl, fR⟩ := bag_rows (w := w) (T := 29) (q := 11) o4 (by simp) (two (some ⟨ga, 0, none⟩) (some ⟨gc, 0, none⟩)) (two 1 1) (two 1 1) (two (recC R1 S1).toList (recC R2 S2).toList) (fun k hk => by
    simp at hk
    rcases (show k = 0 ∨ k = 1 by omega) with rfl | rfl <;> rfl) (fun k hk => by
    simp at hk
    rcases (show k = 0 ∨ k = 1 by omega) with rfl | rfl
    · exact own1 ha
    · exact own1 hc) (fun j k hj hk hjk g e e2 => by
    simp at hj hk
    rcases (show j = 0 ∨ j = 1 by omega) with rfl | rfl <;> rcases (show k = 0 ∨ k = 1 by omega) with rfl | rfl <;> simp only [two_0, two_1] at e e2
    · exact hjk rfl
    · injection e2 with e2; injection e2 with e2; injection e with e; injection e with e; omega
    · injection e2 with e2; injection e2 with e2; injection e with e; injection e with e; omega
    · exact hjk rfl) (by decide)
  have l6 : (rowsB S1 ++ rowsB S2).length = 6 := rfl
  refine (apart4_any b _ _ _ _ _ _ _ _ _ _ _ _ _ _ _ _ _ _ _ _ _ _ _ _ _ _ _ _ w hb fB (by simp [rowsB]) (by simp [rowsB]) (fun k hk => six_few h1 h2 k (by rw [l6] at hk; exact hk)) fD (by simp) (by simp) (fun k hk => by
    simp at hk
    rcases (show k = 0 ∨ k = 1 by omega) with rfl | rfl
    · exact h1.few.2.2.2.1
    · exact h2.few.2.2.2.1) fO (by simp) (by simp) (fun k hk => by
    simp at hk
    rcases (show k = 0 ∨ k = 1 by omega) with rfl | rfl
    · exact h1.few.2.2.2.2
    · exact h2.few.2.2.2.2) fR (by simp) (by simp) (fun k hk => by
    simp at hk
    rcases (show k = 0 ∨ k = 1 by omega) with rfl | rfl <;> decide)).mono ?_
  rintro e w' ⟨he, ht⟩
  refine ⟨he, ht.mono (fun g hg => .inl ?_)⟩
  rcases hg with ⟨k, hk, e⟩ | ⟨k, hk, e⟩ | ⟨k, hk, e⟩ | ⟨k, hk, e⟩
  · rw [l6] at hk
    rcases (show k = 0 ∨ k = 1 ∨ k = 2 ∨ k = 3 ∨ k = 4 ∨ k = 5 by omega) with rfl | rfl | rfl | rfl | rfl | rfl <;> simp only [sl6] at e
    · exact Nat.le_trans hB1 (h1.kB g e)
    · exact Nat.le_trans hB1 (h1.oB g e)
    · exact Nat.le_trans hB1 (h1.nB g e)
    · exact Nat.le_trans hB2 (h2.kB g e)
    · exact Nat.le_trans hB2 (h2.oB g e)
    · exact Nat.le_trans hB2 (h2.nB g e)
  · simp at hk
    rcases (show k = 0 ∨ k = 1 by omega) with rfl | rfl <;> simp only [two_0, two_1] at e
    · exact Nat.le_trans hB1 (h1.dB g e)
    · exact Nat.le_trans hB2 (h2.dB g e)
  · simp at hk
    rcases (show k = 0 ∨ k = 1 by omega) with rfl | rfl <;> simp only [two_0, two_1] at e
    · exact Nat.le_trans hB1 (h1.pB g e)
    · exact Nat.le_trans hB2 (h2.pB g e)
  · simp at hk
    rcases (show k = 0 ∨ k = 1 by omega) with rfl | rfl <;> simp only [two_0, two_1] at e
    · injection e with e; injection e with e; omega
    · injection e with e; injection e with e; omega
set_option maxRecDepth 100000 in
set_option maxHeartbeats 1000000 in
/-- ApartRecords of two rows of one record each: true; only what lies from B on turns. -/
theorem apartRec_any (gl ga gc cl B B1 B2 : Nat) (R1 R2 : Rec) (S1 S2 : RecS) (w : World) (hL : Blk w gl 46 #[.slice (some ⟨ga, 0, none⟩) 1 1, .slice (some ⟨gc, 0, none⟩) 1 1]) (ha : Blk w ga 29 (recC R1 S1)) (hc : Blk w gc 29 (recC R2 S2)) (hne : ga ≠ gc)
    (h1 : RecOwn w B1 R1 S1) (h2 : RecOwn w B2 R2 S2) (hl : RecLt S1 B2) (hB1 : B ≤ B1) (hB2 : B ≤ B2) (hga : B ≤ ga) (hgc : B ≤ gc) (hBw : B ≤ w.heap.size) :
    Calls Tryz.prog 23 #[.slice (some ⟨gl, 0, none⟩) 2 cl] w (fun e w' => e = .returned (.bool true) ∧ Turned (fun g => B ≤ g) w w') := by
  have hla := ha.lt
  have hlc := hc.lt
  have H := Lib.hid (And.intro hL (And.intro ha (And.intro hc (And.intro h1 h2))))
  have hl' := Lib.hid hl
  clear hL ha hc h1 h2 hl
  go_enter Tryz.func23, Tryz.ntmps23
  go_wp2
  go_loopw [4] (fun i wr => AptR ga gc S1 S2 w w.heap.size i wr) (fun i _ => 2 - (intOf i).toNat)
  case atStart => exact ⟨0, by omega, rfl, bag_new _ _ _ (Blk.new _ _ _), (Turned.refl _ w).alloc _⟩
  case round =>
    obtain ⟨k, hk, rfl, hB, hT⟩ := hrel
    have hB := Lib.hid hB
    have hT := Lib.hid hT
    have hsz := hT.out.size
    rcases (show k = 0 ∨ k = 1 ∨ k = 2 by omega) with rfl | rfl | rfl
    · have q0 := (H.out.1.turned hT.out (fun e => e)).cell 0
      simp only [List.getElem?_toArray, List.getElem?_cons_succ, List.getElem?_cons_zero] at q0
      go_wp2_with fail
      refine (putRec_any w.heap.size w.heap.size ga 1 [] [] [] [] R1 S1 _ (by simpa [upTo] using hB.out) (Nat.le_refl _) hla hsz (H.out.2.1.turned hT.out (fun e => e)) (by simp) (by simp) (by simp) (by simp)).mono ?_
      rintro e w2 ⟨rfl, hP, hT2, _⟩
      have hR := Lib.hid (show AptR ga gc S1 S2 w w.heap.size (.int .i64 ((1 : Nat) : Int)) w2 from ⟨1, by omega, rfl, by simpa [upTo, rowsB] using hP, hT.out.trans (W := fun _ => False) hT2 (fun _ e => e) (fun _ e => .inr e)⟩)
      clear hP hT2
      go_wp2_with fail
      go_roundw
      case rel => exact hR.out
      case measure => simp [intOf]
    · have q0 := (H.out.1.turned hT.out (fun e => e)).cell 1
      simp only [List.getElem?_toArray, List.getElem?_cons_succ, List.getElem?_cons_zero] at q0
      go_wp2_with fail
      refine (putRec_any w.heap.size w.heap.size gc 1 (rowsB S1) [.slice S1.D.A S1.D.n S1.D.c] [.slice S1.P.A S1.P.n S1.P.c] [.slice (some ⟨ga, 0, none⟩) 1 1] R2 S2 _ (by simpa [upTo] using hB.out) (Nat.le_refl _) hlc hsz (H.out.2.2.1.turned hT.out (fun e => e)) (by simp [rowsB]) (by simp) (by simp) (by simp)).mono ?_
      rintro e w2 ⟨rfl, hP, hT2, _⟩
      have hR := Lib.hid (show AptR ga gc S1 S2 w w.heap.size (.int .i64 ((2 : Nat) : Int)) w2 from ⟨2, by omega, rfl, by simpa [upTo, rowsB] using hP, hT.out.trans (W := fun _ => False) hT2 (fun _ e => e) (fun _ e => .inr e)⟩)
      clear hP hT2
      go_wp2_with fail
      go_roundw
      case rel => exact hR.out
      case measure => simp [intOf]
    · go_wp2_with fail
      have hT' := hT.out
      refine (apartBag_any (s := w.heap.size) (ga := ga) (gc := gc) (B1 := B1) (B2 := B2) (R1 := R1) (R2 := R2) (by simpa [upTo] using hB.out) (H.out.2.2.2.1.fresh hT') (H.out.2.2.2.2.fresh hT') hl'.out (H.out.2.1.turned hT' (fun e => e)) (H.out.2.2.1.turned hT' (fun e => e)) hne B hB1 hB2 hga hgc).mono ?_
      rintro e w2 ⟨rfl, hT2⟩
      clear hT'
      have hT2 := Lib.hid hT2
      go_wp2_with fail
      go_ret
      exact ⟨rfl, (hT.out.mono (fun _ e => e.elim)).trans (W := fun g => B ≤ g) hT2.out (fun _ e => e) (fun _ e => .inl e)⟩
end Go.Proofs.YtohajofkflibjaaGreatDoor

