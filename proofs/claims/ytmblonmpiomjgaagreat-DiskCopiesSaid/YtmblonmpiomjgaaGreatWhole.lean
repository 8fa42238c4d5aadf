/-
  DiskWhole's walk.
-/
import Derived.Test.YtmblonmpiomjgaaGreatNil
import Derived.Test.YtmblonmpiomjgaaGreatOpenD
namespace Go.Proofs.YtmblonmpiomjgaaGreat
open Go.RowKit Go.Maps

/-- Six cells at g. -/
structure Six (w : World) (g t : Nat) (f : Nat → Value) : Prop where
  row : ∃ cs, Blk w g t cs ∧ cs.size = 6 ∧ ∀ k, k < 6 → cs[k]? = some (f k)
section
variable {w w' : World} {g t : Nat} {f : Nat → Value}
theorem Six.cell (h : Six w g t f) {k : Nat} (hk : k < 6) : w.cell? ⟨g, k, none⟩ = some (f k) := let ⟨_, hb, _, hc⟩ := h.row; (hb.cell k).trans (hc k hk)
theorem Six.cells (h : Six w g t f) : w.cell? ⟨g, 0, none⟩ = some (f 0) ∧ w.cell? ⟨g, 1, none⟩ = some (f 1) ∧ w.cell? ⟨g, 2, none⟩ = some (f 2) ∧ w.cell? ⟨g, 3, none⟩ = some (f 3) ∧ w.cell? ⟨g, 4, none⟩ = some (f 4) ∧ w.cell? ⟨g, 5, none⟩ = some (f 5) :=
  ⟨h.cell (by omega), h.cell (by omega), h.cell (by omega), h.cell (by omega), h.cell (by omega), h.cell (by omega)⟩
theorem Six.frozen (h : Six w g t f) (k : Nat) : w.frozen? ⟨g, k, none⟩ = false := let ⟨_, hb, _⟩ := h.row; hb.frozen k
theorem Six.lt (h : Six w g t f) : g < w.heap.size := let ⟨_, hb, _⟩ := h.row; hb.lt
theorem Six.turned {W : Nat → Prop} (h : Six w g t f) (ht : Turned W w w') (hg : ¬ W g) : Six w' g t f := let ⟨cs, hb, hs⟩ := h.row; ⟨cs, hb.turned ht hg, hs⟩
theorem Six.far (h : Six w g t f) {p : Addr} (hp : g ≠ p.block) (u : Value) : Six (w.setCell p u) g t f := let ⟨cs, hb, hs⟩ := h.row; ⟨cs, hb.far hp u, hs⟩
theorem Six.drewN (h : Six w g t f) (n : Nat) : Six (w.drewN n) g t f := ⟨h.row⟩
theorem Six.drew (h : Six w g t f) : Six w.drew g t f := ⟨h.row⟩
theorem Six.set (h : Six w g t f) (k : Nat) (u : Value) : Six (w.setCell ⟨g, k, none⟩ u) g t (fun j => if j = k then u else f j) := by
  obtain ⟨cs, hb, hs, hc⟩ := h.row
  refine ⟨_, hb.set_ k u, by simp [hs], fun j hj => ?_⟩
  by_cases e : j = k
  · subst e
    rw [Array.getElem?_setIfInBounds_self_of_lt (by omega), if_pos rfl]
  · rw [Array.getElem?_setIfInBounds_ne (fun x => e x.symm), if_neg e, hc j hj]
theorem Six.congr {f' : Nat → Value} (h : Six w g t f) (e : ∀ k, k < 6 → f k = f' k) : Six w g t f' := let ⟨cs, hb, hs, hc⟩ := h.row; ⟨cs, hb, hs, fun k hk => by rw [← e k hk]; exact hc k hk⟩
end
theorem six_lt {P : Nat → Prop} (h0 : P 0) (h1 : P 1) (h2 : P 2) (h3 : P 3) (h4 : P 4) (h5 : P 5) : ∀ k, k < 6 → P k := by
  intro k hk
  match k, hk with
  | 0, _ => exact h0
  | 1, _ => exact h1
  | 2, _ => exact h2
  | 3, _ => exact h3
  | 4, _ => exact h4
  | 5, _ => exact h5

def byt (b : Int) : List Int := if b = 0 then noughts else fullB b
structure Tied (A : DA) (lt sf : Nat → Int) (op : Nat → Bool) : Prop where
  n : A.n = 6
  armed : A.armed = 0
  down : A.down = false
  lt_ : ∀ k, k < 6 → 0 ≤ lt k ∧ lt k ≤ 255
  sf_ : ∀ k, k < 6 → 0 ≤ sf k ∧ sf k ≤ 255
  lat : ∀ k : Nat, k < 6 → A.lat k = byt (lt k)
  saf : ∀ k : Nat, k < 6 → A.saf k = byt (sf k)
  opn : ∀ k : Nat, k < 6 → A.opn k = op k
theorem Tied.new : Tied (DA.new 6) (fun _ => 0) (fun _ => 0) (fun _ => false) := ⟨rfl, rfl, rfl, by simp, by simp, fun _ _ => rfl, fun _ _ => rfl, fun _ _ => rfl⟩
theorem Tied.sync {A : DA} {lt sf : Nat → Int} {op : Nat → Bool} (h : Tied A lt sf op) : Tied A.sync lt lt (fun _ => false) := by
  have ht : tickD A.armed = false := by rw [h.armed]; rfl
  unfold DA.sync
  rw [ht]
  exact ⟨h.n, by rw [h.armed]; rfl, rfl, h.lt_, h.lt_, h.lat, h.lat, fun _ _ => rfl⟩
theorem Tied.write {A : DA} {lt sf : Nat → Int} {op : Nat → Bool} (h : Tied A lt sf op) (k : Nat) (_hk : k < 6) (b : Int) (h1 : 1 ≤ b) (h2 : b ≤ 255) :
    Tied (A.write k (fullB b)) (fun j => if j = k then b else lt j) sf (fun j => if j = k then true else op j) := by
  have ht : tickD A.armed = false := by rw [h.armed]; rfl
  refine ⟨h.n, by show tickA A.armed = 0; rw [h.armed]; rfl, ht, fun j hj => ?_, h.sf_, fun j hj => ?_, h.saf, fun j hj => ?_⟩
  · by_cases e : j = k
    · simp only [e, if_true]; omega
    · simp only [e, if_false]; exact h.lt_ j hj
  · by_cases e : j = k
    · subst e
      simp only [DA.write, upd, if_true]
      unfold byt
      rw [if_neg (by omega)]
    · have e' : ¬ (j : Int) = (k : Int) := by omega
      simp only [DA.write, upd, e, e', if_false]
      exact h.lat j hj
  · by_cases e : j = k
    · subst e
      simp only [DA.write, upd, if_true]
    · have e' : ¬ (j : Int) = (k : Int) := by omega
      simp only [DA.write, upd, e, e', if_false]
      exact h.opn j hj

theorem pick_to (x n r : Int) (w : World) (h : x % n = r) (hn : 1 ≤ n) (hn2 : n ≤ 1000000) (hx1 : -9223372036854775808 ≤ x) (hx2 : x ≤ 9223372036854775807) :
    Calls Tryz.prog 7 #[.int .i64 x, .int .i64 n] w (RetSame (.int .i64 r) w) := by
  subst h
  exact pick_any x n w hn hn2 hx1 hx2

theorem or_all : ∀ k : Fin 256, 1 ≤ bits BinOp.or IntKind.u8 (k.val : Int) 1 ∧ bits BinOp.or IntKind.u8 (k.val : Int) 1 ≤ 255 := by decide +kernel
theorem or_one (z : Int) (h0 : 0 ≤ z) (h1 : z ≤ 255) : 1 ≤ bits BinOp.or IntKind.u8 z 1 ∧ bits BinOp.or IntKind.u8 z 1 ≤ 255 := by
  have := or_all ⟨z.toNat, by omega⟩
  rwa [show ((⟨z.toNat, by omega⟩ : Fin 256).val : Int) = z by show ((z.toNat : Nat) : Int) = z; omega] at this

theorem FatesR.ints {w : World} {B d n : Nat} {F : Option Addr} {fs : List Int} (h : FatesR w B F n fs) (hd : B ≤ d) : IntsR w d F n fs :=
  ⟨h.len, h.max, h.wf, fun hn => by
    obtain ⟨b, off, e, hlt, hc⟩ := h.cell hn
    exact ⟨b, off, e, by omega, hc⟩⟩

/-- What stands behind the waking. -/
structure Woke (A : DA) (lt sf : Nat → Int) (op : Nat → Bool) (fs : List Int) : Prop where
  n : A.n = 6
  down : A.down = false
  lt_ : ∀ k, k < 6 → 0 ≤ lt k ∧ lt k ≤ 255
  sf_ : ∀ k, k < 6 → 0 ≤ sf k ∧ sf k ≤ 255
  lat : ∀ k : Nat, k < 6 → A.lat k = byt (if op k && fs.contains (k : Int) then lt k else sf k)
theorem Tied.wake {A : DA} {lt sf : Nat → Int} {op : Nat → Bool} (h : Tied A lt sf op) (fs : List Int) : Woke (A.wake fs) lt sf op fs := by
  refine ⟨h.n, rfl, h.lt_, h.sf_, fun k hk => ?_⟩
  show (if A.opn k && fs.contains (k : Int) then A.lat k else A.saf k) = _
  rw [h.opn k hk, h.lat k hk, h.saf k hk]
  cases op k && fs.contains (k : Int) <;> rfl
theorem byt_nought {b : Int} (h : b = 0) (m : Nat) : (byt b).getD m 0 = 0 := by
  unfold byt noughts
  rw [if_pos h]
  rw [List.getD_eq_getElem?_getD, List.getElem?_replicate]
  split <;> rfl
theorem byt_full {b : Int} (h : b ≠ 0) {m : Nat} (hm : m < 512) : (byt b).getD m 0 = (b + m / 64) % 256 := by
  unfold byt fullB fullAt
  rw [if_neg h]
  simp [List.getD_eq_getElem?_getD, hm]
theorem sec_byt (b : Int) : Sec (byt b) := by
  unfold byt
  split
  · exact sec_noughts
  · exact sec_full _
def ForRel (n : Nat) (fs : List Int) (k : Int) (wo : World) (v i : Value) (wr : World) : Prop := ∃ (m q : Nat) (b : Bool), m ≤ n ∧ i = .int .i64 m ∧ v = .bool b ∧ wr = wo.drewN q ∧ b = (fs.take m).contains k
def UpRel (n : Nat) (wo : World) (i : Value) (wr : World) : Prop := ∃ m q : Nat, m ≤ n ∧ i = .int .i64 m ∧ wr = wo.drewN q
theorem take_hit {fs : List Int} {k : Int} {m : Nat} (hm : m < fs.length) (h : fs.getD m 0 = k) : (fs.take (m + 1)).contains k = true := by
  rw [List.contains_eq_mem, decide_eq_true_eq]
  rw [List.getD_eq_getElem?_getD, List.getElem?_eq_getElem hm] at h
  have h' : fs[m] = k := h
  rw [← h']
  exact List.mem_take_iff_getElem.2 ⟨m, by omega, rfl⟩
theorem take_more {fs : List Int} {k : Int} {m : Nat} (h : (fs.take m).contains k = true) : (fs.take (m + 1)).contains k = true := by
  rw [List.contains_eq_mem, decide_eq_true_eq] at *
  obtain ⟨i, hi, e⟩ := List.mem_take_iff_getElem.1 h
  exact List.mem_take_iff_getElem.2 ⟨i, by omega, e⟩
theorem take_miss {fs : List Int} {k : Int} {m : Nat} (hm : m < fs.length) (h : (fs.take m).contains k = false) (h2 : fs.getD m 0 ≠ k) : (fs.take (m + 1)).contains k = false := by
  rw [List.contains_eq_mem, decide_eq_false_iff_not] at *
  intro e
  obtain ⟨i, hi, e⟩ := List.mem_take_iff_getElem.1 e
  by_cases h3 : i = m
  · subst h3
    rw [List.getD_eq_getElem?_getD, List.getElem?_eq_getElem hm] at h2
    exact h2 e
  · exact h (List.mem_take_iff_getElem.2 ⟨i, by omega, e⟩)

end Go.Proofs.YtmblonmpiomjgaaGreat
