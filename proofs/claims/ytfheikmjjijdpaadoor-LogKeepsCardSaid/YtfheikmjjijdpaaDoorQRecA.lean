/-
  Records in memory: the words; record.paged, turned, rising, marked. No condition but numbers.
-/
import Derived.Test.YtfheikmjjijdpaaDoorQRecP
import Derived.Test.YtfheikmjjijdpaaDoorQElt
import Derived.RegionTactic
namespace Go.Proofs.YtfheikmjjijdpaaDoor
open Go.RowKit Go.Maps
set_option linter.unusedVariables false

/-- A slice's three words. -/
structure Sl where
  A : Option Addr
  n : Nat
  c : Nat
/-- A slice of bytes. -/
structure SlB (w : World) (s : Sl) (zs : List Int) : Prop where
  bytS : BytS w s.A s.n s.c zs
  le : s.n ≤ s.c
  max : s.c ≤ maxLen
  few : s.n ≤ 140737488355328
/-- The cells of pairs of numbers. -/
def pairC (l : List (Int × Int)) : List Value := l.flatMap fun p => [.int .i64 p.1, .int .i64 p.2]
theorem pairC_length (l : List (Int × Int)) : (pairC l).length = l.length * 2 := by
  induction l with
  | nil => rfl
  | cons p l ih =>
    show ([Value.int .i64 p.1, Value.int .i64 p.2] ++ pairC l).length = _
    rw [List.length_append, ih, List.length_cons]
    simp
    omega
theorem pairC_cons (p : Int × Int) (l : List (Int × Int)) : pairC (p :: l) = .int .i64 p.1 :: .int .i64 p.2 :: pairC l := rfl
theorem pairC_append (a b : List (Int × Int)) : pairC (a ++ b) = pairC a ++ pairC b := by simp [pairC]
theorem pairC_fst (l : List (Int × Int)) (i : Nat) (h : i < l.length) : (pairC l)[i * 2]? = some (.int .i64 (fstAt l i)) := by
  induction l generalizing i with
  | nil => simp at h
  | cons p l ih =>
    cases i with
    | zero => rfl
    | succ i =>
      rw [pairC_cons, show (i + 1) * 2 = i * 2 + 1 + 1 by omega, List.getElem?_cons_succ, List.getElem?_cons_succ, ih i (by simpa using h)]
      rfl
theorem pairC_snd (l : List (Int × Int)) (i : Nat) (h : i < l.length) : (pairC l)[i * 2 + 1]? = some (.int .i64 (sndAt l i)) := by
  induction l generalizing i with
  | nil => simp at h
  | cons p l ih =>
    cases i with
    | zero => rfl
    | succ i =>
      rw [pairC_cons, show (i + 1) * 2 + 1 = i * 2 + 1 + 1 + 1 by omega, List.getElem?_cons_succ, List.getElem?_cons_succ, ih i (by simpa using h)]
      rfl
/-- A slice of pairs of numbers. -/
structure SlP (w : World) (s : Sl) (l : List (Int × Int)) : Prop where
  cel : CelR w s.A (s.n * 2) (pairC l)
  len : l.length = s.n
  nil_ : s.A = none → s.n = 0 ∧ s.c = 0
  le : s.n ≤ s.c
  max : s.c ≤ maxLen
  few : s.n ≤ 140737488355328
structure RecS where
  K : Sl
  O : Sl
  N : Sl
  D : Sl
  P : Sl
/-- What a record's slices hold. -/
structure RecIs (w : World) (R : Rec) (S : RecS) : Prop where
  key : SlB w S.K R.key
  old : SlB w S.O R.old
  new : SlB w S.N R.new
  dirty : SlP w S.D R.dirty
  opn : SlP w S.P R.opn
section
variable {w w' : World}
theorem SlB.fresh {s : Sl} {zs : List Int} (h : SlB w s zs) (ht : Turned (fun _ => False) w w') : SlB w' s zs := ⟨h.bytS.turned ht (fun _ _ _ e => e), h.le, h.max, h.few⟩
theorem SlP.fresh {s : Sl} {l : List (Int × Int)} (h : SlP w s l) (ht : Turned (fun _ => False) w w') : SlP w' s l := ⟨h.cel.fresh ht, h.len, h.nil_, h.le, h.max, h.few⟩
theorem RecIs.fresh {R : Rec} {S : RecS} (h : RecIs w R S) (ht : Turned (fun _ => False) w w') : RecIs w' R S := ⟨h.key.fresh ht, h.old.fresh ht, h.new.fresh ht, h.dirty.fresh ht, h.opn.fresh ht⟩
theorem SlB.len {s : Sl} {zs : List Int} (h : SlB w s zs) : zs.length = s.n := h.bytS.len
theorem SlP.cells {s : Sl} {l : List (Int × Int)} (h : SlP w s l) (hn : 0 < s.n) : ∃ b off, s.A = some ⟨b, off, none⟩ ∧ ∀ i, i < s.n → w.cell? ⟨b, off + i * 2, none⟩ = some (.int .i64 (fstAt l i)) ∧ w.cell? ⟨b, off + i * 2 + 1, none⟩ = some (.int .i64 (sndAt l i)) := by
  obtain ⟨b, off, e, hc⟩ := h.cel.cell (by omega)
  refine ⟨b, off, e, fun i hi => ⟨?_, ?_⟩⟩
  · rw [hc (i * 2) (by omega), pairC_fst l i (by rw [h.len]; exact hi)]
  · rw [Nat.add_assoc, hc (i * 2 + 1) (by omega), pairC_snd l i (by rw [h.len]; exact hi)]
end

theorem paged_any (n : Int) (w : World) : Calls Tryd.prog 42 #[.int .i64 n] w (RetSame (.bool (pagedB n)) w) := by
  unfold pagedB
  by_cases h : 0 ≤ n
  · have h' : decide (0 ≤ n) = true := by simpa using h
    go_enter Tryd.func42, Tryd.ntmps42
    go_wp2
    go_ret
    exact ⟨ret_bool (by simp [h]), rfl⟩
  · have h' : decide (0 ≤ n) = false := by simpa using h
    go_enter Tryd.func42, Tryd.ntmps42
    go_wp2
    go_ret
    exact ⟨ret_bool (by simp), rfl⟩
theorem clD_any (a b : Int) (w : World) : Calls Tryd.prog 60 #[.agg #[.int .i64 a, .int .i64 b]] w (RetNew (.int .i64 a) w) := by
  go_enter Tryd.func60, Tryd.ntmps60
  go_wp2
  go_ret
  exact ⟨rfl, (Turned.refl _ w).alloc _⟩
theorem clO_any (a b : Int) (w : World) : Calls Tryd.prog 62 #[.agg #[.int .i64 a, .int .i64 b]] w (RetNew (.int .i64 a) w) := by
  go_enter Tryd.func62, Tryd.ntmps62
  go_wp2
  go_ret
  exact ⟨rfl, (Turned.refl _ w).alloc _⟩
theorem turned_any (K O N : Sl) (w : World) (hK : K.n ≤ 140737488355328) (hO : O.n ≤ 140737488355328) (hN : N.n ≤ 140737488355328) (b : Bool) (hb : (decide (0 < K.n) && decide (K.n ≤ 40) && decide (0 < O.n + N.n) && decide (K.n + O.n ≤ 220) && decide (K.n + N.n ≤ 220)) = b) :
    Calls Tryd.prog 43 #[.agg #[.slice K.A K.n K.c, .slice O.A O.n O.c, .slice N.A N.n N.c]] w (RetNew (.bool b) w) := by
  obtain ⟨KA, k, kc⟩ := K
  obtain ⟨OA, o, oc⟩ := O
  obtain ⟨NA, n, nc⟩ := N
  simp only at hK hO hN hb ⊢
  have hb' := Lib.hid hb
  clear hb
  go_enter Tryd.func43, Tryd.ntmps43
  go_wp2
  go_region
  all_goals go_wp2
  all_goals
    go_ret
    refine ⟨ret_bool ?_, ((Turned.refl _ w).alloc _).drew⟩
    rw [← hb'.out, Bool.eq_iff_iff]
    simp only [Bool.and_eq_true, decide_eq_true_eq, Bool.false_eq_true]
    exact ⟨fun hh => by first | exact hh.elim | omega, fun hh => by omega⟩
def RiseDRel (least : Int) (l : List (Int × Int)) (n : Nat) (w : World) (i : Value) (wr : World) : Prop := ∃ j : Nat, j ≤ n ∧ i = .int .i64 j ∧ allUp j (riseAt least l) = true ∧ Turned (fun _ => False) w wr
theorem RiseDRel.next {least : Int} {l : List (Int × Int)} {n j : Nat} {w wr w1 : World} (hj : j < n) (ha : allUp j (riseAt least l) = true) (hr : riseAt least l j = true) (ht : Turned (fun _ => False) w wr) (h1 : Turned (fun _ => False) wr w1) : RiseDRel least l n w (.int .i64 ((j + 1 : Nat) : Int)) w1 :=
  ⟨j + 1, hj, rfl, by rw [allUp_succ, ha, hr]; rfl, ht.trans h1 (fun _ e => e) (fun _ e => e.elim)⟩
set_option maxRecDepth 100000 in
set_option maxHeartbeats 1000000 in
theorem riseD_any (s : Sl) (l : List (Int × Int)) (least most : Int) (w : World) (h : SlP w s l) :
    Calls Tryd.prog 59 #[.slice s.A s.n s.c, .func (.func 60) #[] #[], .int .i64 least, .int .i64 most] w (RetNew (.bool (riseB least l && decide ((l.length : Int) ≤ most))) w) := by
  obtain ⟨A, n, c⟩ := s
  have hl := h.len
  have hn := h.few
  simp only at hl hn ⊢
  have hl' := Lib.hid hl
  have h' := Lib.hid h
  clear h hl
  go_enter Tryd.func59, Tryd.ntmps59
  go_wp2
  go_loopw [14] (fun i wr => RiseDRel least l n w i wr) (fun i _ => n - (intOf i).toNat)
  case atStart => exact ⟨0, by omega, rfl, rfl, Turned.refl _ _⟩
  case round =>
    obtain ⟨j, hj, rfl, ha, ht⟩ := hrel
    have ha' := Lib.hid ha
    have ht' := Lib.hid ht
    clear ha ht
    by_cases hlt : j < n
    · have hji : (j : Int) < (n : Int) := by omega
      obtain ⟨b, off, hA, hc⟩ := (h'.out.fresh ht'.out).cells (by show 0 < n; omega)
      simp only at hA
      subst hA
      obtain ⟨q1, q2⟩ := hc j hlt
      have hra : riseAt least l j = (decide (least ≤ fstAt l j) && (decide (j = 0) || decide (fstAt l (j - 1) < fstAt l j))) := rfl
      have hra' := Lib.hid hra
      clear hra
      by_cases h1 : least ≤ fstAt l j
      · by_cases h0 : 0 < j
        · obtain ⟨m, rfl⟩ : ∃ m, j = m + 1 := ⟨j - 1, by omega⟩
          obtain ⟨q3, q4⟩ := hc m (show m < n by omega)
          clear hc
          have hm1 : IntKind.i64.wrap (((m + 1 : Nat) : Int) - 1) = (m : Int) := by rw [show ((m + 1 : Nat) : Int) - 1 = (m : Int) by omega]; exact IntWalk.i64_in _ (by omega)
          rw [show m + 1 - 1 = m by omega] at hra'
          have hno' := Lib.hid (fun (h : riseAt least l (m + 1) = false) => (show riseB least l = false from allUp_not (i := m + 1) (by rw [hl'.out]; exact hlt) h))
          generalize hf : fstAt l (m + 1) = f at *
          generalize sndAt l (m + 1) = g at *
          generalize fstAt l m = f0 at *
          generalize sndAt l m = g0 at *
          go_wp2_with fail
          refine (clD_any _ _ _).mono ?_
          rintro e w3 ⟨rfl, t3⟩
          have t3' : Turned (fun _ => False) wr w3 := ((Turned.refl (fun _ => False) wr).alloc (.cells #[.int .i64 f, .int .i64 g] 95)).trans t3 (fun _ e => e) (fun _ e => e.elim)
          have q3 := cell_turned t3' q3 (fun e => e)
          have q4 := cell_turned t3' q4 (fun e => e)
          go_wp2_with fail
          refine (clD_any _ _ _).mono ?_
          rintro e w4 ⟨rfl, t4⟩
          have T4 := Lib.hid (ht'.out.and_ (t3'.and_ t4))
          have t34 := Lib.hid (t3'.and_ t4)
          clear t3 t3' t4 q1 q2
          by_cases h5 : f ≤ f0
          · have hno := Lib.hid (hno'.out (by rw [hra'.out, decide_eq_false (show ¬ m + 1 = 0 by omega), decide_eq_false (show ¬ f0 < f by omega)]; simp))
            go_wp2_with fail
            go_ret
            rw [hno.out]
            exact ⟨rfl, T4.out⟩
          · have h6 : f0 < f := by omega
            have hr := Lib.hid (show riseAt least l (m + 1) = true by rw [hra'.out, decide_eq_true h1, decide_eq_true h6]; simp)
            clear h5
            go_wp2_with fail
            have hz : Value.int .i64 ((m : Int) + 1 + 1) = .int .i64 ((m + 1 + 1 : Nat) : Int) := by go_num
            rw [hz]
            exact ⟨RiseDRel.next hlt ha'.out hr.out ht'.out t34.out, by simp [intOf]; omega⟩
        · have hd0 : decide ((0 : Int) < (j : Int)) = false := by simp; omega
          have hd1 : (j : Int) ≤ 0 := by omega
          clear hc
          have hr := Lib.hid (show riseAt least l j = true by rw [hra'.out, decide_eq_true h1, decide_eq_true (show j = 0 by omega)]; rfl)
          generalize fstAt l j = f at *
          generalize sndAt l j = g at *
          go_wp2_with fail
          refine (clD_any _ _ _).mono ?_
          rintro e w3 ⟨rfl, t3⟩
          have t3' := Lib.hid (((Turned.refl (fun _ => False) wr).alloc (.cells #[.int .i64 f, .int .i64 g] 95)).and_ t3)
          clear t3
          go_wp2_with fail
          have hz : Value.int .i64 ((j : Int) + 1) = .int .i64 ((j + 1 : Nat) : Int) := by go_num
          rw [hz]
          exact ⟨RiseDRel.next hlt ha'.out hr.out ht'.out t3'.out, by simp [intOf]; omega⟩
      · have hno := Lib.hid (show riseB least l = false from allUp_not (i := j) (by rw [hl'.out]; exact hlt) (by rw [hra'.out, decide_eq_false (by omega)]; rfl))
        clear hc hra'
        generalize fstAt l j = f at *
        generalize sndAt l j = g at *
        have h1' : f < least := by omega
        clear h1
        go_wp2_with fail
        refine (clD_any _ _ _).mono ?_
        rintro e w3 ⟨rfl, t3⟩
        have t3' := Lib.hid (((Turned.refl (fun _ => False) wr).alloc (.cells #[.int .i64 f, .int .i64 g] 95)).and_ t3)
        clear t3
        go_wp2_with fail
        go_ret
        rw [hno.out]
        exact ⟨rfl, ht'.out.and_ t3'.out⟩
    · obtain rfl : j = n := by omega
      have hge : (j : Int) ≤ (j : Int) := Int.le_refl _
      go_wp2_with fail
      go_ret
      exact ⟨ret_bool (by unfold riseB; rw [hl'.out, ha'.out]; rfl), ht'.out⟩
def RiseORel (least : Int) (l : List (Int × Int)) (n : Nat) (w : World) (i : Value) (wr : World) : Prop := ∃ j : Nat, j ≤ n ∧ i = .int .i64 j ∧ allUp j (riseAt least l) = true ∧ Turned (fun _ => False) w wr
theorem RiseORel.next {least : Int} {l : List (Int × Int)} {n j : Nat} {w wr w1 : World} (hj : j < n) (ha : allUp j (riseAt least l) = true) (hr : riseAt least l j = true) (ht : Turned (fun _ => False) w wr) (h1 : Turned (fun _ => False) wr w1) : RiseORel least l n w (.int .i64 ((j + 1 : Nat) : Int)) w1 :=
  ⟨j + 1, hj, rfl, by rw [allUp_succ, ha, hr]; rfl, ht.trans h1 (fun _ e => e) (fun _ e => e.elim)⟩
set_option maxRecDepth 100000 in
set_option maxHeartbeats 1000000 in
theorem riseO_any (s : Sl) (l : List (Int × Int)) (least most : Int) (w : World) (h : SlP w s l) :
    Calls Tryd.prog 61 #[.slice s.A s.n s.c, .func (.func 62) #[] #[], .int .i64 least, .int .i64 most] w (RetNew (.bool (riseB least l && decide ((l.length : Int) ≤ most))) w) := by
  obtain ⟨A, n, c⟩ := s
  have hl := h.len
  have hn := h.few
  simp only at hl hn ⊢
  have hl' := Lib.hid hl
  have h' := Lib.hid h
  clear h hl
  go_enter Tryd.func61, Tryd.ntmps61
  go_wp2
  go_loopw [14] (fun i wr => RiseORel least l n w i wr) (fun i _ => n - (intOf i).toNat)
  case atStart => exact ⟨0, by omega, rfl, rfl, Turned.refl _ _⟩
  case round =>
    obtain ⟨j, hj, rfl, ha, ht⟩ := hrel
    have ha' := Lib.hid ha
    have ht' := Lib.hid ht
    clear ha ht
    by_cases hlt : j < n
    · have hji : (j : Int) < (n : Int) := by omega
      obtain ⟨b, off, hA, hc⟩ := (h'.out.fresh ht'.out).cells (by show 0 < n; omega)
      simp only at hA
      subst hA
      obtain ⟨q1, q2⟩ := hc j hlt
      have hra : riseAt least l j = (decide (least ≤ fstAt l j) && (decide (j = 0) || decide (fstAt l (j - 1) < fstAt l j))) := rfl
      have hra' := Lib.hid hra
      clear hra
      by_cases h1 : least ≤ fstAt l j
      · by_cases h0 : 0 < j
        · obtain ⟨m, rfl⟩ : ∃ m, j = m + 1 := ⟨j - 1, by omega⟩
          obtain ⟨q3, q4⟩ := hc m (show m < n by omega)
          clear hc
          have hm1 : IntKind.i64.wrap (((m + 1 : Nat) : Int) - 1) = (m : Int) := by rw [show ((m + 1 : Nat) : Int) - 1 = (m : Int) by omega]; exact IntWalk.i64_in _ (by omega)
          rw [show m + 1 - 1 = m by omega] at hra'
          have hno' := Lib.hid (fun (h : riseAt least l (m + 1) = false) => (show riseB least l = false from allUp_not (i := m + 1) (by rw [hl'.out]; exact hlt) h))
          generalize hf : fstAt l (m + 1) = f at *
          generalize sndAt l (m + 1) = g at *
          generalize fstAt l m = f0 at *
          generalize sndAt l m = g0 at *
          go_wp2_with fail
          refine (clO_any _ _ _).mono ?_
          rintro e w3 ⟨rfl, t3⟩
          have t3' : Turned (fun _ => False) wr w3 := ((Turned.refl (fun _ => False) wr).alloc (.cells #[.int .i64 f, .int .i64 g] 97)).trans t3 (fun _ e => e) (fun _ e => e.elim)
          have q3 := cell_turned t3' q3 (fun e => e)
          have q4 := cell_turned t3' q4 (fun e => e)
          go_wp2_with fail
          refine (clO_any _ _ _).mono ?_
          rintro e w4 ⟨rfl, t4⟩
          have T4 := Lib.hid (ht'.out.and_ (t3'.and_ t4))
          have t34 := Lib.hid (t3'.and_ t4)
          clear t3 t3' t4 q1 q2
          by_cases h5 : f ≤ f0
          · have hno := Lib.hid (hno'.out (by rw [hra'.out, decide_eq_false (show ¬ m + 1 = 0 by omega), decide_eq_false (show ¬ f0 < f by omega)]; simp))
            go_wp2_with fail
            go_ret
            rw [hno.out]
            exact ⟨rfl, T4.out⟩
          · have h6 : f0 < f := by omega
            have hr := Lib.hid (show riseAt least l (m + 1) = true by rw [hra'.out, decide_eq_true h1, decide_eq_true h6]; simp)
            clear h5
            go_wp2_with fail
            have hz : Value.int .i64 ((m : Int) + 1 + 1) = .int .i64 ((m + 1 + 1 : Nat) : Int) := by go_num
            rw [hz]
            exact ⟨RiseORel.next hlt ha'.out hr.out ht'.out t34.out, by simp [intOf]; omega⟩
        · have hd0 : decide ((0 : Int) < (j : Int)) = false := by simp; omega
          have hd1 : (j : Int) ≤ 0 := by omega
          clear hc
          have hr := Lib.hid (show riseAt least l j = true by rw [hra'.out, decide_eq_true h1, decide_eq_true (show j = 0 by omega)]; rfl)
          generalize fstAt l j = f at *
          generalize sndAt l j = g at *
          go_wp2_with fail
          refine (clO_any _ _ _).mono ?_
          rintro e w3 ⟨rfl, t3⟩
          have t3' := Lib.hid (((Turned.refl (fun _ => False) wr).alloc (.cells #[.int .i64 f, .int .i64 g] 97)).and_ t3)
          clear t3
          go_wp2_with fail
          have hz : Value.int .i64 ((j : Int) + 1) = .int .i64 ((j + 1 : Nat) : Int) := by go_num
          rw [hz]
          exact ⟨RiseORel.next hlt ha'.out hr.out ht'.out t3'.out, by simp [intOf]; omega⟩
      · have hno := Lib.hid (show riseB least l = false from allUp_not (i := j) (by rw [hl'.out]; exact hlt) (by rw [hra'.out, decide_eq_false (by omega)]; rfl))
        clear hc hra'
        generalize fstAt l j = f at *
        generalize sndAt l j = g at *
        have h1' : f < least := by omega
        clear h1
        go_wp2_with fail
        refine (clO_any _ _ _).mono ?_
        rintro e w3 ⟨rfl, t3⟩
        have t3' := Lib.hid (((Turned.refl (fun _ => False) wr).alloc (.cells #[.int .i64 f, .int .i64 g] 97)).and_ t3)
        clear t3
        go_wp2_with fail
        go_ret
        rw [hno.out]
        exact ⟨rfl, ht'.out.and_ t3'.out⟩
    · obtain rfl : j = n := by omega
      have hge : (j : Int) ≤ (j : Int) := Int.le_refl _
      go_wp2_with fail
      go_ret
      exact ⟨ret_bool (by unfold riseB; rw [hl'.out, ha'.out]; rfl), ht'.out⟩

def DirtyRel (l : List (Int × Int)) (n : Nat) (w : World) (i : Value) (wr : World) : Prop := ∃ j : Nat, j ≤ n ∧ i = .int .i64 j ∧ allUp j (dirtyAt l) = true ∧ Turned (fun _ => False) w wr
theorem DirtyRel.next {l : List (Int × Int)} {n j : Nat} {w wr w1 : World} (hj : j < n) (ha : allUp j (dirtyAt l) = true) (hr : dirtyAt l j = true) (ht : Turned (fun _ => False) w wr) (h1 : Turned (fun _ => False) wr w1) : DirtyRel l n w (.int .i64 ((j + 1 : Nat) : Int)) w1 :=
  ⟨j + 1, hj, rfl, by rw [allUp_succ, ha, hr]; rfl, ht.trans h1 (fun _ e => e) (fun _ e => e.elim)⟩
def OpenRel (l : List (Int × Int)) (n : Nat) (w : World) (i : Value) (wr : World) : Prop := ∃ j : Nat, j ≤ n ∧ i = .int .i64 j ∧ allUp j (openAt l) = true ∧ Turned (fun _ => False) w wr
theorem OpenRel.next {l : List (Int × Int)} {n j : Nat} {w wr w1 : World} (hj : j < n) (ha : allUp j (openAt l) = true) (hr : openAt l j = true) (ht : Turned (fun _ => False) w wr) (h1 : Turned (fun _ => False) wr w1) : OpenRel l n w (.int .i64 ((j + 1 : Nat) : Int)) w1 :=
  ⟨j + 1, hj, rfl, by rw [allUp_succ, ha, hr]; rfl, ht.trans h1 (fun _ e => e) (fun _ e => e.elim)⟩
/-- A record's cells. -/
def recC (R : Rec) (S : RecS) : Array Value := #[.int .i64 R.lsn, .int .i64 R.work, .int .i64 R.prev, .int .i64 R.next, .int .u8 R.kind, .int .i64 R.page, .slice S.K.A S.K.n S.K.c, .slice S.O.A S.O.n S.O.c, .slice S.N.A S.N.n S.N.c, .slice S.D.A S.D.n S.D.c, .slice S.P.A S.P.n S.P.c]
set_option maxRecDepth 100000 in
set_option maxHeartbeats 2000000 in
theorem marked_any (R : Rec) (S : RecS) (w : World) (h : RecIs w R S) : Calls Tryd.prog 41 #[.agg (recC R S)] w (RetNew (.bool (markB R)) w) := by
  obtain ⟨lsn, work, prev, next, kind, page, key, old, new, dirty, opn⟩ := R
  obtain ⟨⟨KA, Kn, Kc⟩, ⟨OA, On, Oc⟩, ⟨NA, Nn, Nc⟩, ⟨DA, Dn, Dc⟩, ⟨PA, Pn, Pc⟩⟩ := S
  have hD := h.dirty
  have hP := h.opn
  have hdn := hD.few
  have hpn := hP.few
  have hdl := Lib.hid hD.len
  have hpl := Lib.hid hP.len
  simp only at hdn hpn hD hP hdl hpl
  have hD' := Lib.hid hD
  have hP' := Lib.hid hP
  have hRD := Lib.hid (fun (w : World) (h : SlP w ⟨DA, Dn, Dc⟩ dirty) => riseD_any ⟨DA, Dn, Dc⟩ dirty 0 32 w h)
  have hRO := Lib.hid (fun (w : World) (h : SlP w ⟨PA, Pn, Pc⟩ opn) => riseO_any ⟨PA, Pn, Pc⟩ opn 1 8 w h)
  simp only at hRD hRO
  clear h hD hP
  unfold recC
  simp only
  have hb0 := Blk.new w 39 #[.int .i64 lsn, .int .i64 work, .int .i64 prev, .int .i64 next, .int .u8 kind, .int .i64 page, .slice KA Kn Kc, .slice OA On Oc, .slice NA Nn Nc, .slice DA Dn Dc, .slice PA Pn Pc]
  have hb0' := Lib.hid hb0
  have ht0 := Lib.hid ((Turned.refl (fun _ => False) w).alloc (.cells #[.int .i64 lsn, .int .i64 work, .int .i64 prev, .int .i64 next, .int .u8 kind, .int .i64 page, .slice KA Kn Kc, .slice OA On Oc, .slice NA Nn Nc, .slice DA Dn Dc, .slice PA Pn Pc] 39))
  clear hb0
  go_enter Tryd.func41, Tryd.ntmps41
  go_wp2
  generalize w.alloc (.cells #[.int .i64 lsn, .int .i64 work, .int .i64 prev, .int .i64 next, .int .u8 kind, .int .i64 page, .slice KA Kn Kc, .slice OA On Oc, .slice NA Nn Nc, .slice DA Dn Dc, .slice PA Pn Pc] 39) = w0 at *
  generalize w.heap.size = B at *
  go_loopw [10] (fun i wr => DirtyRel dirty Dn w0 i wr) (fun i _ => Dn - (intOf i).toNat)
  case atStart => exact ⟨0, by omega, rfl, rfl, Turned.refl _ _⟩
  case round =>
    obtain ⟨j, hj, rfl, ha, ht⟩ := hrel
    have ha' := Lib.hid ha
    have ht' := Lib.hid ht
    have hb1 := Lib.hid (hb0'.out.turned ht (fun e => e))
    clear ha ht
    by_cases hlt : j < Dn
    · have hji : (j : Int) < (Dn : Int) := by omega
      obtain ⟨b, off, hA, hc⟩ := (hD'.out.fresh (ht0.out.and_ ht'.out)).cells (by show 0 < Dn; omega)
      simp only at hA
      subst hA
      obtain ⟨q1, q2⟩ := hc j hlt
      clear hc
      have hda := Lib.hid (show dirtyAt dirty j = (decide (1 ≤ sndAt dirty j) && pagedB (fstAt dirty j)) from rfl)
      have hno := Lib.hid (fun (h : dirtyAt dirty j = false) => (show markB ⟨lsn, work, prev, next, kind, page, key, old, new, dirty, opn⟩ = false by
        unfold markB
        rw [allUp_not (i := j) (by rw [hdl.out]; exact hlt) h]
        rfl))
      generalize fstAt dirty j = f at *
      generalize sndAt dirty j = g at *
      have t3 := Lib.hid ((Turned.refl (fun _ => False) wr).alloc (.cells #[.int .i64 f, .int .i64 g] 95))
      by_cases h1 : 1 ≤ g
      · cases hpg : pagedB f with
        | true =>
          have hr := Lib.hid (show dirtyAt dirty j = true by rw [hda.out, decide_eq_true h1, hpg]; rfl)
          have hp := paged_any f
          rw [hpg] at hp
          have hp' := Lib.hid hp
          clear hpg hp
          go_wp2_with (go_at_call 42; refine (hp'.out _).mono ?_; rintro e w3 ⟨rfl, rfl⟩)
          have hz : Value.int .i64 ((j : Int) + 1) = .int .i64 ((j + 1 : Nat) : Int) := by go_num
          rw [hz]
          exact ⟨DirtyRel.next hlt ha'.out hr.out ht'.out t3.out, by simp [intOf]; omega⟩
        | false =>
          have hr := Lib.hid (hno.out (by rw [hda.out, hpg]; simp))
          have hp := paged_any f
          rw [hpg] at hp
          have hp' := Lib.hid hp
          clear hpg hp
          go_wp2_with (go_at_call 42; refine (hp'.out _).mono ?_; rintro e w3 ⟨rfl, rfl⟩)
          go_ret
          rw [hr.out]
          exact ⟨rfl, (ht0.out.and_ ht'.out).and_ t3.out⟩
      · have hr := Lib.hid (hno.out (by rw [hda.out, decide_eq_false (by omega)]; rfl))
        have h1' : g < 1 := by omega
        clear h1
        go_wp2_with fail
        go_ret
        rw [hr.out]
        exact ⟨rfl, (ht0.out.and_ ht'.out).and_ t3.out⟩
    · obtain rfl : j = Dn := by omega
      have hge : (j : Int) ≤ (j : Int) := Int.le_refl _
      have hAD := Lib.hid (show allUp dirty.length (dirtyAt dirty) = true by rw [hdl.out]; exact ha'.out)
      have ht1 := Lib.hid (ht0.out.and_ ht'.out)
      have c9 := hb1.out.cell 9
      have c10 := hb1.out.cell 10
      change wr.cell? ⟨B, 9, none⟩ = some (.slice DA j Dc) at c9
      change wr.cell? ⟨B, 10, none⟩ = some (.slice PA Pn Pc) at c10
      clear ha' ht' hb0' ht0
      go_wp2_with fail
      clear c9 c10
      obtain ⟨w1, hw1⟩ : ∃ w1 : World, w1 = wr := ⟨_, rfl⟩
      subst hw1
      go_loopw [27] (fun i wr => OpenRel opn Pn w1 i wr) (fun i _ => Pn - (intOf i).toNat)
      case atStart => exact ⟨0, by omega, rfl, rfl, Turned.refl _ _⟩
      case round =>
        obtain ⟨k, hk, rfl, ha, ht⟩ := hrel
        have ha' := Lib.hid ha
        have ht' := Lib.hid ht
        have hb2 := Lib.hid (hb1.out.turned ht (fun e => e))
        clear ha ht
        by_cases hlt2 : k < Pn
        · have hji : (k : Int) < (Pn : Int) := by omega
          obtain ⟨b, off, hA, hc⟩ := (hP'.out.fresh (ht1.out.and_ ht'.out)).cells (by show 0 < Pn; omega)
          simp only at hA
          subst hA
          obtain ⟨q1, q2⟩ := hc k hlt2
          clear hc
          have hda := Lib.hid (show openAt opn k = decide (1 ≤ sndAt opn k) from rfl)
          have hno := Lib.hid (fun (h : openAt opn k = false) => (show markB ⟨lsn, work, prev, next, kind, page, key, old, new, dirty, opn⟩ = false by
            unfold markB
            rw [allUp_not (n := opn.length) (i := k) (by rw [hpl.out]; exact hlt2) h]
            simp))
          generalize fstAt opn k = f at *
          generalize sndAt opn k = g at *
          have t3 := Lib.hid ((Turned.refl (fun _ => False) wr).alloc (.cells #[.int .i64 f, .int .i64 g] 97))
          by_cases h1 : 1 ≤ g
          · have hr := Lib.hid (show openAt opn k = true by rw [hda.out, decide_eq_true h1])
            go_wp2_with fail
            have hz : Value.int .i64 ((k : Int) + 1) = .int .i64 ((k + 1 : Nat) : Int) := by go_num
            rw [hz]
            exact ⟨OpenRel.next hlt2 ha'.out hr.out ht'.out t3.out, by simp [intOf]; omega⟩
          · have hr := Lib.hid (hno.out (by rw [hda.out, decide_eq_false (by omega)]))
            have h1' : g < 1 := by omega
            clear h1
            go_wp2_with fail
            go_ret
            rw [hr.out]
            exact ⟨rfl, (ht1.out.and_ ht'.out).and_ t3.out⟩
        · obtain rfl : k = Pn := by omega
          have hge2 : (k : Int) ≤ (k : Int) := Int.le_refl _
          have hAO := Lib.hid (show allUp opn.length (openAt opn) = true by rw [hpl.out]; exact ha'.out)
          have ht2 := Lib.hid (ht1.out.and_ ht'.out)
          have c9 := hb2.out.cell 9
          have c10 := hb2.out.cell 10
          change wr.cell? ⟨B, 9, none⟩ = some (.slice DA j Dc) at c9
          change wr.cell? ⟨B, 10, none⟩ = some (.slice PA k Pc) at c10
          clear ha' ht'
          have hmk := Lib.hid (show markB ⟨lsn, work, prev, next, kind, page, key, old, new, dirty, opn⟩ = ((riseB 0 dirty && decide ((dirty.length : Int) ≤ 32)) && (riseB 1 opn && decide ((opn.length : Int) ≤ 8))) by
            unfold markB
            rw [hAD.out, hAO.out]
            have e1 : decide ((dirty.length : Int) ≤ 32) = decide (dirty.length ≤ 32) := decide_eq_decide.2 (by omega)
            have e2 : decide ((opn.length : Int) ≤ 8) = decide (opn.length ≤ 8) := decide_eq_decide.2 (by omega)
            rw [e1, e2]
            rfl)
          have hRD2 := hRD.out _ (hD'.out.fresh ht2.out)
          have hRO2 := Lib.hid (fun (w : World) (t : Turned (fun _ => False) wr w) => hRO.out _ (hP'.out.fresh (ht2.out.and_ t)))
          generalize (riseB 0 dirty && decide ((dirty.length : Int) ≤ 32)) = x at hRD2 hmk
          generalize (riseB 1 opn && decide ((opn.length : Int) ≤ 8)) = y at hRO2 hmk
          clear hRD hRO hAD hAO
          have hRD3 := Lib.hid hRD2
          clear hRD2
          cases x with
          | false =>
            go_wp2_with fail
            refine hRD3.out.mono ?_
            rintro e w3 ⟨rfl, t3⟩
            have t3' := Lib.hid t3
            clear t3
            go_wp2_with fail
            go_ret
            rw [hmk.out]
            exact ⟨rfl, ht2.out.and_ t3'.out⟩
          | true =>
            go_wp2_with fail
            refine hRD3.out.mono ?_
            rintro e w3 ⟨rfl, t3⟩
            have t3' := Lib.hid t3
            have c10 := cell_turned t3 c10 (fun e => e)
            clear t3
            go_wp2_with fail
            refine (hRO2.out _ t3'.out).mono ?_
            rintro e w4 ⟨rfl, t4⟩
            have t4' := Lib.hid t4
            clear t4
            go_wp2_with fail
            go_ret
            rw [hmk.out]
            exact ⟨ret_bool (by simp), (ht2.out.and_ t3'.out).and_ t4'.out⟩
end Go.Proofs.YtfheikmjjijdpaaDoor

