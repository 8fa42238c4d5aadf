/-
  What masters written one behind the other leave, whatever crashes: the plain law.
-/
import Derived.Test.YtobjoafhhchjgaaMrkE
namespace Go.Proofs.Ytobjoafhhchjgaa
open Go.RowKit Go.Maps

/-- At rest: all is synced, 'now' is the newest master, the other sector has none or an older one. -/
structure Rest (A : DA) (now : M4) : Prop where
  n : A.n = 40
  down : A.down = false
  saf : A.saf = A.lat
  opn : A.opn = fun _ => false
  may : now.may = true
  lat : A.lat (now.seq % 2) = mBytes now.list
  other : A.lat ((now.seq + 1) % 2) = noughts ∨ ∃ m : M4, m.may = true ∧ m.seq < now.seq ∧ m.seq % 2 = (now.seq + 1) % 2 ∧ A.lat ((now.seq + 1) % 2) = mBytes m.list
theorem rest_made {A : DA} (h : Made 40 A) : Rest A mOne :=
  ⟨h.n, h.down, h.saf, h.opn, by decide, h.one, .inl (h.else_ 0 (by omega) (by omega) (by omega))⟩
theorem rest_read {A : DA} {now : M4} (h : Rest A now) : mreadUp A = (0, now) := by
  have hs := may_seq h.may
  have key : bestAt A 2 = now := by
    show rdAt (A.lat 1) 1 (rdAt (A.lat 0) 0 M4.zero) = now
    rcases (show now.seq % 2 = 0 ∨ now.seq % 2 = 1 by omega) with e | e
    · have e1 : (now.seq + 1) % 2 = 1 := by omega
      have hl := h.lat
      have ho := h.other
      rw [e] at hl
      rw [e1] at ho
      have h0 : rdAt (A.lat 0) 0 M4.zero = now := by
        rw [hl]; unfold rdAt
        rw [rdOk_bytes now h.may, e]
        have : decide (M4.zero.seq < now.seq) = true := decide_eq_true (by show (0 : Int) < now.seq; omega)
        rw [this, M4.of_bytes now h.may]; simp
      rw [h0]
      rcases ho with ho | ⟨m, hm, hlt, _, ho⟩
      · rw [ho]; unfold rdAt; rw [rdOk_noughts]; rfl
      · rw [ho]; unfold rdAt
        rw [rdOk_bytes m hm, show decide (now.seq < m.seq) = false from decide_eq_false (by omega)]
        simp
    · have e1 : (now.seq + 1) % 2 = 0 := by omega
      have hl := h.lat
      have ho := h.other
      rw [e] at hl
      rw [e1] at ho
      have h0 : (rdAt (A.lat 0) 0 M4.zero).seq < now.seq := by
        rcases ho with ho | ⟨m, hm, hlt, _, ho⟩
        · rw [ho]; unfold rdAt; rw [rdOk_noughts]; show (0 : Int) < now.seq; omega
        · rw [ho]; unfold rdAt
          split
          · rw [M4.of_bytes m hm]; exact hlt
          · show (0 : Int) < now.seq; omega
      rw [hl]
      unfold rdAt at h0 ⊢
      rw [rdOk_bytes now h.may, e, show decide ((if rdOk (A.lat 0) 0 M4.zero = true then M4.of (A.lat 0) else M4.zero).seq < now.seq) = true from decide_eq_true h0]
      show M4.of (mBytes now.list) = now
      exact M4.of_bytes now h.may
  unfold mreadUp
  rw [key, if_neg (by omega)]

/-- The next master is written on a disk that is armed for a; the answer, and what comes of it, woken by some fates or, where all went well, not. -/
def wakeIf (b : Bool) (fs : List Int) (A : DA) : DA := if b then A.wake fs else A
theorem rest_next {A : DA} {now next : M4} (h : Rest A now) (a : Int) (ha : 0 ≤ a) (hm : next.may = true) (hseq : next.seq = now.seq + 1) (fs : List Int) (b : Bool) :
    ((mw { A with armed := a } next).1 = 0 ∨ (mw { A with armed := a } next).1 = 8) ∧
    ∃ got, Rest (wakeIf (b || decide ((mw { A with armed := a } next).1 ≠ 0)) fs (mw { A with armed := a } next).2) got ∧ (got = next ∨ (got = now ∧ (mw { A with armed := a } next).1 ≠ 0)) := by
  have hs := may_seq h.may
  have hk : 0 ≤ next.seq % 2 ∧ next.seq % 2 < 40 := by omega
  have hkn : next.seq % 2 = (now.seq + 1) % 2 := by rw [hseq]
  have hne : ¬ now.seq % 2 = next.seq % 2 := by omega
  have hnn : (next.seq + 1) % 2 = now.seq % 2 := by omega
  -- what is written where it stays
  have newRest : ∀ (B : DA), B.n = 40 → B.down = false → B.saf = B.lat → B.opn = (fun _ => false) → B.lat (next.seq % 2) = mBytes next.list → B.lat (now.seq % 2) = mBytes now.list → Rest B next := fun B b1 b2 b3 b4 b5 b6 =>
    ⟨b1, b2, b3, b4, hm, b5, .inr ⟨now, h.may, by omega, by omega, by rw [hnn]; exact b6⟩⟩
  have oldRest : ∀ (B : DA), B.n = 40 → B.down = false → B.saf = B.lat → B.opn = (fun _ => false) → B.lat (next.seq % 2) = A.lat (next.seq % 2) → B.lat (now.seq % 2) = mBytes now.list → Rest B now := fun B b1 b2 b3 b4 b5 b6 =>
    ⟨b1, b2, b3, b4, h.may, b6, by rw [← hkn, b5, hkn]; exact h.other⟩
  have hmw : mw { A with armed := a } next = mwAt { A with armed := a } (next.seq % 2) (mBytes next.list) := by
    unfold mw
    rw [if_neg (by show ¬ A.n < 40; rw [h.n]; omega), if_pos hm]
  have hwc : ({ A with armed := a } : DA).wCode (next.seq % 2) 512 = codeOf (tickD a) := by
    unfold DA.wCode
    rw [if_neg (by show ¬ A.down = true; rw [h.down]; exact Bool.false_ne_true), if_pos ⟨hk.1, by show next.seq % 2 < A.n; rw [h.n]; exact hk.2⟩, if_pos rfl]
  have hwn : ({ A with armed := a } : DA).wNext (next.seq % 2) 512 (mBytes next.list) = { A with lat := upd A.lat (next.seq % 2) (mBytes next.list), opn := upd A.opn (next.seq % 2) true, armed := tickA a, down := tickD a } := by
    unfold DA.wNext
    rw [if_neg (by show ¬ A.down = true; rw [h.down]; exact Bool.false_ne_true), if_pos ⟨hk.1, by show next.seq % 2 < A.n; rw [h.n]; exact hk.2⟩, if_pos rfl]
    rfl
  -- woken behind a crash
  have woken : ∀ (a' : Int) (d' : Bool), ∃ got, Rest (DA.wake { A with lat := upd A.lat (next.seq % 2) (mBytes next.list), opn := upd A.opn (next.seq % 2) true, armed := a', down := d' } fs) got ∧ (got = next ∨ got = now) := fun a' d' => by
    have hop : ∀ j, upd A.opn (next.seq % 2) true j = decide (j = next.seq % 2) := fun j => by
      unfold upd
      rw [h.opn]
      by_cases e : j = next.seq % 2
      · rw [if_pos e, decide_eq_true e]
      · rw [if_neg e, decide_eq_false e]
    have hold : (DA.wake { A with lat := upd A.lat (next.seq % 2) (mBytes next.list), opn := upd A.opn (next.seq % 2) true, armed := a', down := d' } fs).lat (now.seq % 2) = mBytes now.list := by
      show (if upd A.opn (next.seq % 2) true (now.seq % 2) && fs.contains (now.seq % 2) then upd A.lat (next.seq % 2) (mBytes next.list) (now.seq % 2) else A.saf (now.seq % 2)) = _
      rw [hop, decide_eq_false hne, h.saf]
      exact h.lat
    by_cases hc : fs.contains (next.seq % 2) = true
    · refine ⟨next, newRest _ h.n rfl rfl rfl ?_ hold, .inl rfl⟩
      show (if upd A.opn (next.seq % 2) true (next.seq % 2) && fs.contains (next.seq % 2) then upd A.lat (next.seq % 2) (mBytes next.list) (next.seq % 2) else A.saf (next.seq % 2)) = _
      rw [hop, decide_eq_true rfl, hc]
      simp [upd]
    · refine ⟨now, oldRest _ h.n rfl rfl rfl ?_ hold, .inr rfl⟩
      show (if upd A.opn (next.seq % 2) true (next.seq % 2) && fs.contains (next.seq % 2) then upd A.lat (next.seq % 2) (mBytes next.list) (next.seq % 2) else A.saf (next.seq % 2)) = _
      rw [show fs.contains (next.seq % 2) = false by simpa using hc, Bool.and_false, h.saf]
      rfl
  have tick2 : 0 ≤ tickA a := (tickA_le ha).1
  rw [hmw]
  unfold mwAt
  rw [hwc, hwn]
  cases ht : tickD a with
  | true =>
    rw [if_neg (by show ¬ (8 : Int) = 0; omega)]
    refine ⟨.inr rfl, ?_⟩
    have e : (b || decide (codeOf true ≠ 0)) = true := by cases b <;> rfl
    obtain ⟨got, h1, h2⟩ := woken (tickA a) true
    refine ⟨got, ?_, h2.imp id (fun e => ⟨e, by show codeOf true ≠ 0; decide⟩)⟩
    show Rest (wakeIf (b || decide (codeOf true ≠ 0)) fs _) got
    rw [e]
    exact h1
  | false =>
    rw [if_pos (show codeOf false = 0 from rfl)]
    have hsc : DA.sCode { A with lat := upd A.lat (next.seq % 2) (mBytes next.list), opn := upd A.opn (next.seq % 2) true, armed := tickA a, down := false } = codeOf (tickD (tickA a)) := by
      unfold DA.sCode
      rw [if_neg (by exact Bool.false_ne_true)]
    have hsn : DA.sNext { A with lat := upd A.lat (next.seq % 2) (mBytes next.list), opn := upd A.opn (next.seq % 2) true, armed := tickA a, down := false } = DA.sync { A with lat := upd A.lat (next.seq % 2) (mBytes next.list), opn := upd A.opn (next.seq % 2) true, armed := tickA a, down := false } := by
      unfold DA.sNext
      rw [if_neg (by exact Bool.false_ne_true)]
    rw [hsc, hsn]
    unfold DA.sync
    cases ht2 : tickD (tickA a) with
    | true =>
      rw [if_pos rfl]
      refine ⟨.inr rfl, ?_⟩
      have e : (b || decide (codeOf true ≠ 0)) = true := by cases b <;> rfl
      obtain ⟨got, h1, h2⟩ := woken (tickA (tickA a)) true
      refine ⟨got, ?_, h2.imp id (fun e => ⟨e, by show codeOf true ≠ 0; decide⟩)⟩
      show Rest (wakeIf (b || decide (codeOf true ≠ 0)) fs _) got
      rw [e]
      exact h1
    | false =>
      rw [if_neg Bool.false_ne_true]
      refine ⟨.inl rfl, next, ?_, .inl rfl⟩
      have hn1 : upd A.lat (next.seq % 2) (mBytes next.list) (next.seq % 2) = mBytes next.list := by simp [upd]
      have hn2 : upd A.lat (next.seq % 2) (mBytes next.list) (now.seq % 2) = mBytes now.list := by
        unfold upd
        rw [if_neg hne]
        exact h.lat
      have e : (b || decide (codeOf false ≠ 0)) = b := by cases b <;> rfl
      show Rest (wakeIf (b || decide (codeOf false ≠ 0)) fs _) next
      rw [e]
      cases b with
      | false => exact newRest _ h.n rfl rfl rfl hn1 hn2
      | true =>
        have hw : ∀ j, (DA.wake { A with lat := upd A.lat (next.seq % 2) (mBytes next.list), saf := upd A.lat (next.seq % 2) (mBytes next.list), opn := fun _ => false, armed := tickA (tickA a), down := false } fs).lat j = upd A.lat (next.seq % 2) (mBytes next.list) j := fun j => rfl
        exact newRest _ h.n rfl rfl rfl (by rw [show (wakeIf true fs _ : DA).lat _ = _ from hw _]; exact hn1) (by rw [show (wakeIf true fs _ : DA).lat _ = _ from hw _]; exact hn2)
end Go.Proofs.Ytobjoafhhchjgaa
