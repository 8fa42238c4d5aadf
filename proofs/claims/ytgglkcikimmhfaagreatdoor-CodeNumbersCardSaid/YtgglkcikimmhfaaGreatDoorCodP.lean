/-
  Codes, plain: which bytes are a code's, what its bytes are, and what is got of bytes. No program in sight.
-/
import Derived.Test.YtgglkcikimmhfaaGreatDoorCodN
namespace Go.Proofs.YtgglkcikimmhfaaGreatDoor

def upper (c : Nat) : Bool := decide (65 ≤ c) && decide (c ≤ 90)
def digit (c : Nat) : Bool := decide (48 ≤ c) && decide (c ≤ 57)
/-- May byte c stand at place i of a code? -/
def okAt (i c : Nat) : Bool := upper c || (decide (0 < i) && (digit c || c == 45))
def okFrom : Nat → List UInt8 → Bool
  | _, [] => true
  | i, c :: r => okAt i c.toNat && okFrom (i + 1) r
def codeL (l : List UInt8) : Bool := decide (0 < l.length) && decide (l.length ≤ 12) && okFrom 0 l
theorem okFrom_append (i : Nat) (a b : List UInt8) : okFrom i (a ++ b) = (okFrom i a && okFrom (i + a.length) b) := by
  induction a generalizing i with
  | nil => simp [okFrom]
  | cons c r ih =>
    simp only [List.cons_append, okFrom, ih, List.length_cons]
    rw [Bool.and_assoc, show i + 1 + r.length = i + (r.length + 1) by omega]
theorem okFrom_take {l : List UInt8} (h : okFrom 0 l = true) (k : Nat) : okFrom 0 (l.take k) = true := by
  have := okFrom_append 0 (l.take k) (l.drop k)
  rw [List.take_append_drop, h] at this
  simp only [Bool.true_eq, Bool.and_eq_true] at this
  exact this.1
theorem okFrom_snoc (l : List UInt8) (k : Nat) (hk : k < l.length) : okFrom 0 (l.take (k + 1)) = (okFrom 0 (l.take k) && okAt k (l[k]).toNat) := by
  rw [List.take_succ_eq_append_getElem hk, okFrom_append]
  simp only [okFrom, Bool.and_true, Nat.zero_add, List.length_take]
  rw [Nat.min_eq_left (by omega)]
theorem okAt_later {i j c : Nat} (h : okAt i c = true) (hj : 0 < j) : okAt j c = true := by
  unfold okAt at h ⊢
  simp only [Bool.or_eq_true, Bool.and_eq_true, decide_eq_true_eq] at h ⊢
  rcases h with h | h
  · exact .inl h
  · exact .inr ⟨hj, h.2⟩
theorem okFrom_later (l : List UInt8) (i j : Nat) (h : okFrom i l = true) (hj : 0 < j) : okFrom j l = true := by
  induction l generalizing i j with
  | nil => rfl
  | cons c r ih =>
    simp only [okFrom, Bool.and_eq_true] at h ⊢
    exact ⟨okAt_later h.1 hj, ih (i + 1) (j + 1) h.2 (by omega)⟩
theorem codeL_len {l : List UInt8} (h : codeL l = true) : 0 < l.length ∧ l.length ≤ 12 ∧ okFrom 0 l = true := by
  unfold codeL at h
  simp only [Bool.and_eq_true, decide_eq_true_eq] at h
  exact ⟨h.1.1, h.1.2, h.2⟩
theorem codeL_mk {l : List UInt8} (h1 : 0 < l.length) (h2 : l.length ≤ 12) (h3 : okFrom 0 l = true) : codeL l = true := by
  unfold codeL
  simp only [Bool.and_eq_true, decide_eq_true_eq]
  exact ⟨⟨h1, h2⟩, h3⟩
theorem codeL_take {l : List UInt8} (h : codeL l = true) (k : Nat) (h0 : 1 ≤ k) (hk : k ≤ l.length) : codeL (l.take k) = true := by
  obtain ⟨h1, h2, h3⟩ := codeL_len h
  exact codeL_mk (by rw [List.length_take]; omega) (by rw [List.length_take]; omega) (okFrom_take h3 k)
theorem codeL_both {a b : List UInt8} (ha : codeL a = true) (hb : codeL b = true) : codeL (a ++ b) = decide (a.length + b.length ≤ 12) := by
  obtain ⟨h1, h2, h3⟩ := codeL_len ha
  obtain ⟨k1, k2, k3⟩ := codeL_len hb
  unfold codeL
  rw [okFrom_append, h3, okFrom_later b 0 _ k3 (by omega), List.length_append]
  have : decide (0 < a.length + b.length) = true := by simp; omega
  rw [this]
  simp

/-- May these bytes be put? The empty text's, too. -/
def putOk (l : List UInt8) : Bool := decide (l.length = 0) || codeL l
def ints (l : List UInt8) : List Int := l.map fun c => (c.toNat : Int)
theorem ints_length (l : List UInt8) : (ints l).length = l.length := by simp [ints]
/-- A code's bytes. -/
def putL (l : List UInt8) : List Int := if putOk l then (l.length : Int) :: ints l else []
theorem putOk_len {l : List UInt8} (h : putOk l = true) : l.length ≤ 12 := by
  unfold putOk at h
  simp only [Bool.or_eq_true, decide_eq_true_eq] at h
  rcases h with h | h
  · omega
  · exact (codeL_len h).2.1
end Go.Proofs.YtgglkcikimmhfaaGreatDoor
