/-
  Masters, in plain words: what is put is got; a disk that was made new; a master written on a disk that is up.
-/
import Derived.Test.YtobjoafhhchjgaaMrkD
namespace Go.Proofs.Ytobjoafhhchjgaa
open Go.RowKit Go.Maps

theorem dec8_be8 (z : Int) (h0 : 0 ≤ z) (h1 : z < 9223372036854775808) : dec8 (be8 z) = z := by
  have e : dec8 (be8 z) = IntKind.i64.wrap (IntKind.i64.wrap (IntKind.i64.wrap (IntKind.i64.wrap (IntKind.i64.wrap (IntKind.i64.wrap (IntKind.i64.wrap (IntKind.i64.wrap (0 * 256 + z / 2 ^ 56 % 256) * 256 + z / 2 ^ 48 % 256) * 256 + z / 2 ^ 40 % 256) * 256 + z / 2 ^ 32 % 256) * 256 + z / 2 ^ 24 % 256) * 256 + z / 2 ^ 16 % 256) * 256 + z / 2 ^ 8 % 256) * 256 + z / 2 ^ 0 % 256) := rfl
  rw [e]
  have step : ∀ a c : Int, 0 ≤ a * 256 + c → a * 256 + c < 9223372036854775808 → IntKind.i64.wrap (a * 256 + c) = a * 256 + c := fun a c ha hb => by rw [IntKind.wrap_i64]; omega
  have e1 : (0 : Int) * 256 + z / 2 ^ 56 % 256 = z / 2 ^ 56 := by omega
  have e2 : z / 2 ^ 56 * 256 + z / 2 ^ 48 % 256 = z / 2 ^ 48 := by omega
  have e3 : z / 2 ^ 48 * 256 + z / 2 ^ 40 % 256 = z / 2 ^ 40 := by omega
  have e4 : z / 2 ^ 40 * 256 + z / 2 ^ 32 % 256 = z / 2 ^ 32 := by omega
  have e5 : z / 2 ^ 32 * 256 + z / 2 ^ 24 % 256 = z / 2 ^ 24 := by omega
  have e6 : z / 2 ^ 24 * 256 + z / 2 ^ 16 % 256 = z / 2 ^ 16 := by omega
  have e7 : z / 2 ^ 16 * 256 + z / 2 ^ 8 % 256 = z / 2 ^ 8 := by omega
  have e8 : z / 2 ^ 8 * 256 + z / 2 ^ 0 % 256 = z := by omega
  have s1 := (step _ _ (by rw [e1]; omega) (by rw [e1]; omega)).trans e1
  have s2 := (step _ _ (by rw [e2]; omega) (by rw [e2]; omega)).trans e2
  have s3 := (step _ _ (by rw [e3]; omega) (by rw [e3]; omega)).trans e3
  have s4 := (step _ _ (by rw [e4]; omega) (by rw [e4]; omega)).trans e4
  have s5 := (step _ _ (by rw [e5]; omega) (by rw [e5]; omega)).trans e5
  have s6 := (step _ _ (by rw [e6]; omega) (by rw [e6]; omega)).trans e6
  have s7 := (step _ _ (by rw [e7]; omega) (by rw [e7]; omega)).trans e7
  have s8 := (step _ _ (by rw [e8]; omega) (by rw [e8]; omega)).trans e8
  rw [s1, s2, s3, s4, s5, s6, s7, s8]
theorem M4.of_bytes (m : M4) (h : m.may = true) : M4.of (mBytes m.list) = m := by
  obtain ⟨a, b, c, d⟩ := m
  unfold M4.may inB at h
  simp at h
  have e0 : decAt (mBytes (M4.mk a b c d).list) 32 0 = dec8 (be8 a) := rfl
  have e1 : decAt (mBytes (M4.mk a b c d).list) 32 1 = dec8 (be8 b) := rfl
  have e2 : decAt (mBytes (M4.mk a b c d).list) 32 2 = dec8 (be8 c) := rfl
  have e3 : decAt (mBytes (M4.mk a b c d).list) 32 3 = dec8 (be8 d) := rfl
  unfold M4.of
  rw [e0, e1, e2, e3, dec8_be8 a (by omega) (by omega), dec8_be8 b (by omega) (by omega), dec8_be8 c (by omega) (by omega), dec8_be8 d (by omega) (by omega)]
theorem rdOk_bytes (m : M4) (h : m.may = true) (i : Int) (best : M4) : rdOk (mBytes m.list) i best = (decide (m.seq % 2 = i) && decide (best.seq < m.seq)) := by
  unfold rdOk
  rw [M4.of_bytes m h, h]
  simp
theorem rdOk_noughts (i : Int) (best : M4) : rdOk noughts i best = false := by
  have e : M4.of noughts = M4.zero := by
    unfold M4.of
    have : ∀ j, j < 4 → decAt noughts 32 j = 0 := by
      intro j hj
      unfold decAt noughts
      rw [List.drop_replicate, List.take_replicate]
      generalize min (min 8 (32 - 8 * j)) (512 - (8 + 8 * j)) = k
      induction k with
      | zero => rfl
      | succ k ih => rw [List.replicate_succ', dec8_snoc, ih]; rfl
    rw [this 0 (by omega), this 1 (by omega), this 2 (by omega), this 3 (by omega)]
    rfl
  unfold rdOk
  rw [e]
  rfl

/-- A disk that is up and not armed. -/
structure Calm (A : DA) : Prop where
  n1 : 40 ≤ A.n
  armed : A.armed = 0
  down : A.down = false
section
variable {A : DA} (h : Calm A)
include h
theorem calm_tick : tickD A.armed = false ∧ tickA A.armed = 0 := by rw [h.armed]; exact ⟨rfl, rfl⟩
theorem calm_wCode {k : Int} (h0 : 0 ≤ k) (h1 : k < A.n) : A.wCode k 512 = 0 := by
  unfold DA.wCode
  rw [if_neg (by rw [h.down]; exact Bool.false_ne_true), if_pos ⟨h0, h1⟩, if_pos rfl, (calm_tick h).1]
  rfl
theorem calm_wNext {k : Int} (h0 : 0 ≤ k) (h1 : k < A.n) (zs : List Int) : A.wNext k 512 zs = { A with lat := upd A.lat k zs, opn := upd A.opn k true, armed := 0, down := false } := by
  unfold DA.wNext DA.write
  rw [if_neg (by rw [h.down]; exact Bool.false_ne_true), if_pos ⟨h0, h1⟩, if_pos rfl, (calm_tick h).1, (calm_tick h).2]
theorem calm_sync : A.sCode = 0 ∧ A.sNext = { A with saf := A.lat, opn := fun _ => false, armed := 0, down := false } := by
  unfold DA.sCode DA.sNext DA.sync
  rw [if_neg (by rw [h.down]; exact Bool.false_ne_true), if_neg (by rw [h.down]; exact Bool.false_ne_true), (calm_tick h).1, (calm_tick h).2]
  exact ⟨rfl, rfl⟩
theorem calm_mw (m : M4) (hm : m.may = true) : mw A m = (0, { A with lat := upd A.lat (m.seq % 2) (mBytes m.list), saf := upd A.lat (m.seq % 2) (mBytes m.list), opn := fun _ => false, armed := 0, down := false }) := by
  have hn := h.n1
  have h2 : 0 ≤ m.seq % 2 ∧ m.seq % 2 < A.n := by omega
  unfold mw mwAt
  rw [if_neg (by omega), if_pos hm, if_pos (calm_wCode h h2.1 h2.2), calm_wNext h h2.1 h2.2]
  have hc : Calm { A with lat := upd A.lat (m.seq % 2) (mBytes m.list), opn := upd A.opn (m.seq % 2) true, armed := 0, down := false } := ⟨h.n1, rfl, rfl⟩
  rw [(calm_sync hc).1, (calm_sync hc).2]
end
theorem calm_fmtL : ∀ (n : Nat) (k : Int) (A : DA), Calm A → 0 ≤ k → k + n ≤ A.n → ∃ A', fmtL n k A = (0, A') ∧ Calm A' ∧ A'.n = A.n ∧ ∀ j, A'.lat j = if k ≤ j ∧ j < k + n then noughts else A.lat j
  | 0, k, A, h, _, _ => ⟨A, rfl, h, rfl, fun j => by rw [if_neg (by omega)]⟩
  | n + 1, k, A, h, h0, h1 => by
    have hk : k < A.n := by omega
    have hw := calm_wNext h h0 hk noughts
    obtain ⟨A', r1, r2, r3, r4⟩ := calm_fmtL n (k + 1) (A.wNext k 512 noughts) (by rw [hw]; exact ⟨h.n1, rfl, rfl⟩) (by omega) (by rw [hw]; show k + 1 + (n : Int) ≤ A.n; omega)
    refine ⟨A', ?_, r2, by rw [r3, hw], fun j => ?_⟩
    · show (if _ then _ else _) = _
      rw [if_pos (calm_wCode h h0 hk)]
      exact r1
    · rw [r4 j, hw]
      by_cases e : j = k
      · subst e
        rw [if_neg (by omega), if_pos (by omega)]
        simp [upd]
      · by_cases e2 : k + 1 ≤ j ∧ j < k + 1 + n
        · rw [if_pos e2, if_pos (by omega)]
        · rw [if_neg e2, if_neg (by omega)]
          simp [upd, e]
/-- A disk whose sectors are as they were synced, the first master in its place, noughts elsewhere. -/
structure Made (N : Int) (A : DA) : Prop where
  n : A.n = N
  armed : A.armed = 0
  down : A.down = false
  one : A.lat 1 = mBytes mOne.list
  else_ : ∀ j, 0 ≤ j → j < N → j ≠ 1 → A.lat j = noughts
  saf : A.saf = A.lat
  opn : A.opn = fun _ => false
theorem fmt_new (N : Int) (h0 : 40 ≤ N) (h1 : N ≤ 8192) : ∃ A', fmt (DA.new N) = (0, A') ∧ Made N A' := by
  obtain ⟨A1, r1, r2, r3, r4⟩ := calm_fmtL N.toNat 0 (DA.new N) ⟨h0, rfl, rfl⟩ (by omega) (by show (0 : Int) + (N.toNat : Int) ≤ N; omega)
  have hn : (DA.new N).n = N := rfl
  have hc2 : Calm A1.sNext := by rw [(calm_sync r2).2]; exact ⟨r2.n1, rfl, rfl⟩
  have hm1 : mOne.may = true := by decide
  refine ⟨{ A1.sNext with lat := upd A1.sNext.lat (mOne.seq % 2) (mBytes mOne.list), saf := upd A1.sNext.lat (mOne.seq % 2) (mBytes mOne.list), opn := fun _ => false, armed := 0, down := false }, ?_, ?_⟩
  · unfold fmt
    rw [hn, if_neg (by omega), r1, if_pos rfl, if_pos (calm_sync r2).1, calm_mw hc2 mOne hm1]
  · rw [(calm_sync r2).2]
    refine ⟨by rw [← hn, ← r3], rfl, rfl, ?_, fun j j0 j1 hj => ?_, rfl, rfl⟩
    · show (if (1 : Int) = mOne.seq % 2 then mBytes mOne.list else A1.lat 1) = _
      rw [if_pos (by decide)]
    show (if j = mOne.seq % 2 then mBytes mOne.list else A1.lat j) = _
    have : ¬ j = mOne.seq % 2 := by simpa [mOne] using hj
    rw [if_neg this, r4 j]
    split
    · rfl
    · rfl
end Go.Proofs.Ytobjoafhhchjgaa
