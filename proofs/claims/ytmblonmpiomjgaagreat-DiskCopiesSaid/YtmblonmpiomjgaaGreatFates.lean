/-
  DiskNumbers' fates: each set of sectors, of three that are written.
-/
import Derived.Test.YtmblonmpiomjgaaGreatNil
namespace Go.Proofs.YtmblonmpiomjgaaGreat
open Go.RowKit Go.Maps

structure Fst (A : DA) (I : Int) : Prop where
  n : A.n = 3
  armed : A.armed = 0
  down : A.down = false
  lat : ∀ k, 0 ≤ k → k < I → A.lat k = fullB k
theorem Fst.tick {A : DA} {I : Int} (h : Fst A I) : tickD A.armed = false := by rw [h.armed]; rfl
theorem Fst.step {A : DA} {I : Int} (h : Fst A I) : Fst (A.write I (fullB I)) (I + 1) := by
  refine ⟨h.n, by show tickA A.armed = 0; rw [h.armed]; rfl, h.tick, fun k h0 h1 => ?_⟩
  show upd A.lat I (fullB I) k = _
  unfold upd
  by_cases e : k = I
  · rw [if_pos e, e]
  · rw [if_neg e]; exact h.lat k h0 (by omega)
structure Thd (A : DA) (I : Int) : Prop where
  n : A.n = 3
  armed : A.armed = 0
  down : A.down = false
  saf : ∀ k, 0 ≤ k → k < 3 → A.saf k = fullB k
  opn : ∀ k, 0 ≤ k → k < 3 → A.opn k = decide (I < k)
  lat : ∀ k, 0 ≤ k → k < 3 → I < k → A.lat k = fullB (100 + k)
theorem Thd.tick {A : DA} {I : Int} (h : Thd A I) : tickD A.armed = false := by rw [h.armed]; rfl
theorem Fst.sync {A : DA} (h : Fst A 3) : Thd A.sync 2 := by
  unfold DA.sync
  rw [h.tick]
  exact ⟨h.n, by show tickA A.armed = 0; rw [h.armed]; rfl, rfl, fun k h0 h1 => h.lat k h0 h1, fun k h0 h1 => (decide_eq_false (by omega)).symm, fun k h0 h1 h2 => by omega⟩
theorem Thd.step {A : DA} {I : Int} (h : Thd A I) : Thd (A.write I (fullB (100 + I))) (I - 1) := by
  refine ⟨h.n, by show tickA A.armed = 0; rw [h.armed]; rfl, h.tick, h.saf, fun k h0 h1 => ?_, fun k h0 h1 h2 => ?_⟩
  · show upd A.opn I true k = _
    unfold upd
    by_cases e : k = I
    · rw [if_pos e, decide_eq_true (by omega)]
    · rw [if_neg e, h.opn k h0 h1]
      by_cases e2 : I < k
      · rw [decide_eq_true e2, decide_eq_true (by omega)]
      · rw [decide_eq_false e2, decide_eq_false (by omega)]
  · show upd A.lat I (fullB (100 + I)) k = _
    unfold upd
    by_cases e : k = I
    · rw [if_pos e, e]
    · rw [if_neg e]; exact h.lat k h0 h1 (by omega)
def L1Rel (d s o : Nat) (w : World) (v : Value) (wr : World) : Prop := ∃ (I : Int) (A : DA), 0 ≤ I ∧ I ≤ 3 ∧ v = .int .i64 I ∧ IsDisk wr d s o A ∧ Fst A I ∧ Turned (fun _ => False) w wr
def kbit (j : Nat) (I : Int) : Bool := bits BinOp.and IntKind.i64 ((j : Int) / 2 ^ I.toNat) 1 == 1
theorem fateinfo : (Tryz.prog.info? 56).map (fun i => (i.zero, i.size, i.bytes)) = some (some (.agg #[.int .i64 0]), 1, 8) := by kernel_rfl
theorem ownsRow_turned {W : Nat → Prop} {w w' : World} {base size n : Nat} {e : TypeId} {v : Value} {xs : List Value} (h : w.ownsRow base e size v n xs) (ht : Turned W w w') (hW : ∀ i, W i → i < base) : w'.ownsRow base e size v n xs := by
  obtain ⟨h1, h2⟩ := h
  refine ⟨h1, h2.imp id ?_⟩
  rintro ⟨g, cap, cur, hv, hb, hh, r⟩
  exact ⟨g, cap, cur, hv, hb, (ht.block g (Blk.lt (t := e) (cs := cur) hh) (fun e => by have := hW g e; omega)).trans hh, r⟩
theorem own_block_ge {w : World} {base size n : Nat} {e : TypeId} {v : Value} {xs : List Value} (h : w.ownsRow base e size v n xs) {k : Nat} (hk : v.ownBlock = some k) : base ≤ k := by
  obtain ⟨_, h2⟩ := h
  rcases h2 with ⟨rfl, _⟩ | ⟨g, cap, cur, rfl, hb, _⟩
  · cases hk
  · simp [Value.ownBlock] at hk; omega
theorem ints_of_own {w : World} {base d : Nat} {v : Value} {fs : List Int} (h : w.ownsRow base 56 1 v fs.length (fs.map (.int .i64))) (hwf : ∀ f ∈ fs, (Lit.int .i64 f).wf = true) (hm : fs.length ≤ 6) (hd : d < base) :
    ∃ F n c, v = .slice F n c ∧ IntsR w d F n fs := by
  obtain ⟨_, h2⟩ := h
  rcases h2 with ⟨rfl, h0⟩ | ⟨g, cap, cur, rfl, hb, hh, _, _, _, hc⟩
  · exact ⟨none, 0, 0, rfl, h0, by omega, hwf, fun h => by omega⟩
  · refine ⟨_, _, _, rfl, rfl, by omega, hwf, fun _ => ⟨g, 0, rfl, by omega, fun j hj => ?_⟩⟩
    have hcell := Blk.cell (w := w) (g := g) (t := 56) (cs := cur) hh (0 + j)
    rw [hcell, Nat.zero_add]
    rw [Nat.mul_one] at hc
    have h1 : (fs.map (Value.int .i64))[j]? = some (.int .i64 (fs.getD j 0)) := by
      rw [List.getElem?_map, List.getD_eq_getElem?_getD, List.getElem?_eq_getElem hj]
      rfl
    rw [← hc, List.getElem?_take, if_pos hj] at h1
    simpa using h1
def dB (d s o : Nat) : Nat := max d (max s o) + 1
theorem dB_lt {d s o k : Nat} (h : dskW d s o k) : k < dB d s o := by
  unfold dB
  rcases h with rfl | rfl | rfl <;> omega
theorem dB_le {w : World} {d s o : Nat} {A : DA} (h : IsDisk w d s o A) : dB d s o ≤ w.heap.size := by
  have h1 := h.lt (k := d) (.inl rfl)
  have h2 := h.lt (k := s) (.inr (.inl rfl))
  have h3 := h.lt (k := o) (.inr (.inr rfl))
  unfold dB
  omega
structure Wkd (A : DA) (j : Nat) : Prop where
  n : A.n = 3
  down : A.down = false
  lat : ∀ k, 0 ≤ k → k < 3 → A.lat k = fullB (if kbit j k then 100 + k else k)
theorem Thd.wake {A : DA} (h : Thd A (-1)) {j : Nat} {fs : List Int} (hf : ∀ k, 0 ≤ k → k < 3 → fs.contains k = (decide (-1 < k) && kbit j k)) : Wkd (A.wake fs) j := by
  refine ⟨h.n, rfl, fun k h0 h1 => ?_⟩
  show (if A.opn k && fs.contains k then A.lat k else A.saf k) = _
  rw [h.opn k h0 h1, hf k h0 h1, decide_eq_true (by omega), h.lat k h0 h1 (by omega), h.saf k h0 h1]
  cases kbit j k <;> rfl
def L4Rel (d s o : Nat) (A : DA) (w : World) (v : Value) (wr : World) : Prop := ∃ I : Int, 0 ≤ I ∧ I ≤ 3 ∧ v = .int .i64 I ∧ IsDisk wr d s o A ∧ Turned (fun _ => False) w wr
theorem more_fates {fs : List Int} {j : Nat} {I : Int} (hf : ∀ k, 0 ≤ k → k < 3 → fs.contains k = (decide (I < k) && kbit j k)) (hk : kbit j I = true) : ∀ k, 0 ≤ k → k < 3 → (fs ++ [I, I]).contains k = (decide (I - 1 < k) && kbit j k) := by
  intro k h0 h1
  have := hf k h0 h1
  rw [List.contains_eq_mem] at *
  by_cases e : k = I
  · subst e; simp [hk]; omega
  · by_cases e2 : I < k
    · have e3 : I - 1 < k := by omega
      simp only [e2, decide_true, Bool.true_and] at this
      simp [e, e3, this]
    · have e3 : ¬ I - 1 < k := by omega
      simp only [e2, decide_false, Bool.false_and, decide_eq_false_iff_not] at this
      simp [e, e3, this]
theorem same_fates {fs : List Int} {j : Nat} {I : Int} (hf : ∀ k, 0 ≤ k → k < 3 → fs.contains k = (decide (I < k) && kbit j k)) (hk : kbit j I = false) : ∀ k, 0 ≤ k → k < 3 → fs.contains k = (decide (I - 1 < k) && kbit j k) := by
  intro k h0 h1
  rw [hf k h0 h1]
  by_cases e : k = I
  · subst e; simp [hk]
  · by_cases e2 : I < k
    · have e3 : I - 1 < k := by omega
      simp [e2, e3]
    · have e3 : ¬ I - 1 < k := by omega
      simp [e2, e3]

def L3Rel (d s o : Nat) (w : World) (base : Nat) (kb : Int → Bool) (l v : Value) (wr : World) : Prop := ∃ (I : Int) (A : DA) (fs : List Int), -1 ≤ I ∧ I ≤ 2 ∧ v = .int .i64 I ∧ IsDisk wr d s o A ∧ Thd A I ∧
  wr.ownsRow base 56 1 l fs.length (fs.map (.int .i64)) ∧ (∀ k, 0 ≤ k → k < 3 → fs.contains k = (decide (I < k) && kb k)) ∧ (fs.length : Int) ≤ 2 * (2 - I) ∧ (∀ f ∈ fs, (Lit.int .i64 f).wf = true) ∧ Turned (fun _ => False) w wr
def L0Rel (w : World) (v : Value) (wr : World) : Prop := ∃ j : Nat, j ≤ 8 ∧ v = .int .i64 j ∧ Turned (fun _ => False) w wr

end Go.Proofs.YtmblonmpiomjgaaGreat
