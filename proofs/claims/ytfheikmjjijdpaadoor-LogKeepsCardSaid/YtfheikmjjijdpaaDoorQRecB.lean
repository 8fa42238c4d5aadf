/-
  record.Right: which records are right. No condition but numbers.
-/
import Derived.Test.YtfheikmjjijdpaaDoorQRecA
namespace Go.Proofs.YtfheikmjjijdpaaDoor
open Go.RowKit Go.Maps
set_option linter.unusedVariables false
set_option linter.unusedSimpArgs false

theorem bareB_eq {R : Rec} {S : RecS} {w : World} (h : RecIs w R S) : bareB R = ((((S.K.n : Int) + (S.O.n : Int) + (S.N.n : Int)) == 0) : Bool) := by
  unfold bareB
  rw [h.key.len, h.old.len, h.new.len, Bool.eq_iff_iff]
  simp only [decide_eq_true_eq, beq_iff_eq]
  omega
theorem turnB_eq {R : Rec} {S : RecS} {w : World} (h : RecIs w R S) : (decide (0 < S.K.n) && decide (S.K.n ≤ 40) && decide (0 < S.O.n + S.N.n) && decide (S.K.n + S.O.n ≤ 220) && decide (S.K.n + S.N.n ≤ 220)) = turnB R := by
  unfold turnB
  rw [h.key.len, h.old.len, h.new.len]
theorem lists_eq {R : Rec} {S : RecS} {w : World} (h : RecIs w R S) : decide (R.dirty.length + R.opn.length = 0) = !decide ((0 : Int) < (S.D.n : Int) + (S.P.n : Int)) := by
  rw [h.dirty.len, h.opn.len, Bool.eq_iff_iff]
  simp only [decide_eq_true_eq, Bool.not_eq_true', decide_eq_false_iff_not]
  omega
set_option maxRecDepth 100000 in
set_option maxHeartbeats 4000000 in
theorem right_mark (R : Rec) (S : RecS) (w : World) (h : RecIs w R S) (h5 : R.kind = 5) : Calls Tryd.prog 14 #[.agg (recC R S)] w (RetNew (.bool (rightR R)) w) := by
  have hbe := bareB_eq h
  have hll := lists_eq h
  have hkn := h.key.few
  have hon := h.old.few
  have hnn := h.new.few
  have hdn := h.dirty.few
  have hpn := h.opn.few
  have hT := Lib.hid (fun (w : World) => turned_any S.K S.O S.N w h.key.few h.old.few h.new.few (turnB R) (turnB_eq h))
  have hP := Lib.hid (fun (w : World) => paged_any R.page w)
  have hM := Lib.hid (fun (w' : World) (t : Turned (fun _ => False) w w') => marked_any R S w' (h.fresh t))
  have hr : rightR R = (decide (R.work = 0) && decide (R.prev = 0) && decide (R.next = 0) && decide (R.page = 0) && bareB R && markB R) := by unfold rightR; rw [if_pos h5]
  have hr' := Lib.hid hr
  clear hr h
  generalize bareB R = bb at hbe hr'
  generalize markB R = mm at hM hr'
  generalize turnB R = tt at hT hr'
  generalize pagedB R.page = pp at hP hr'
  generalize decide (R.dirty.length + R.opn.length = 0) = dd at hll hr'
  obtain ⟨lsn, work, prev, next, kind, page, key, old, new, dirty, opn⟩ := R
  obtain ⟨⟨KA, Kn, Kc⟩, ⟨OA, On, Oc⟩, ⟨NA, Nn, Nc⟩, ⟨DA, Dn, Dc⟩, ⟨PA, Pn, Pc⟩⟩ := S
  simp only at hbe hkn hon hnn hdn hpn hr' hT hP hll
  simp only at h5
  subst h5
  unfold recC at hM ⊢
  simp only at hM ⊢
  have hbe' := Lib.hid hbe.symm
  have hll' := Lib.hid (show decide ((0 : Int) < (Dn : Int) + (Pn : Int)) = !dd by rw [hll]; simp)
  clear hbe hll
  by_cases qwork : work = 0
  · subst qwork
    by_cases qprev : prev = 0
    · subst qprev
      by_cases qnext : next = 0
      · subst qnext
        by_cases qpage : page = 0
        · subst qpage
          cases bb with
          | false =>
            have qb := hbe'.out
            go_enter Tryd.func14, Tryd.ntmps14
            go_wp2_with fail
            go_ret
            exact ⟨ret_bool (by rw [hr'.out]; simp []), (Turned.refl (fun _ => False) w).alloc _⟩
          | true =>
            have qb := hbe'.out
            go_enter Tryd.func14, Tryd.ntmps14
            go_wp2_with fail
            refine (hM.out _ ((Turned.refl (fun _ => False) w).alloc _)).mono ?_
            rintro e w3 ⟨rfl, t3⟩
            have t3 := Lib.hid t3
            go_wp2_with fail
            go_ret
            exact ⟨ret_bool (by rw [hr'.out]; simp []), ((Turned.refl (fun _ => False) w).alloc _).and_ t3.out⟩
        · have kpage : (page == 0) = false := by simpa using qpage
          go_enter Tryd.func14, Tryd.ntmps14
          go_wp2_with fail
          go_ret
          exact ⟨ret_bool (by rw [hr'.out]; simp [qpage]), (Turned.refl (fun _ => False) w).alloc _⟩
      · have knext : (next == 0) = false := by simpa using qnext
        go_enter Tryd.func14, Tryd.ntmps14
        go_wp2_with fail
        go_ret
        exact ⟨ret_bool (by rw [hr'.out]; simp [qnext]), (Turned.refl (fun _ => False) w).alloc _⟩
    · have kprev : (prev == 0) = false := by simpa using qprev
      go_enter Tryd.func14, Tryd.ntmps14
      go_wp2_with fail
      go_ret
      exact ⟨ret_bool (by rw [hr'.out]; simp [qprev]), (Turned.refl (fun _ => False) w).alloc _⟩
  · have kwork : (work == 0) = false := by simpa using qwork
    go_enter Tryd.func14, Tryd.ntmps14
    go_wp2_with fail
    go_ret
    exact ⟨ret_bool (by rw [hr'.out]; simp [qwork]), (Turned.refl (fun _ => False) w).alloc _⟩
set_option maxRecDepth 100000 in
set_option maxHeartbeats 4000000 in
theorem right_1 (R : Rec) (S : RecS) (w : World) (h : RecIs w R S) (h5 : R.kind = 1) : Calls Tryd.prog 14 #[.agg (recC R S)] w (RetNew (.bool (rightR R)) w) := by
  have hbe := bareB_eq h
  have hll := lists_eq h
  have hkn := h.key.few
  have hon := h.old.few
  have hnn := h.new.few
  have hdn := h.dirty.few
  have hpn := h.opn.few
  have hT := Lib.hid (fun (w : World) => turned_any S.K S.O S.N w h.key.few h.old.few h.new.few (turnB R) (turnB_eq h))
  have hP := Lib.hid (fun (w : World) => paged_any R.page w)
  have hM := Lib.hid (fun (w' : World) (t : Turned (fun _ => False) w w') => marked_any R S w' (h.fresh t))
  have hr : rightR R = (decide (1 ≤ R.work) && decide (0 ≤ R.prev) && decide (R.dirty.length + R.opn.length = 0) && (decide (R.next = 0) && pagedB R.page && turnB R)) := by
    unfold rightR kindB
    rw [h5]
    rfl
  have hr' := Lib.hid hr
  clear hr h
  generalize bareB R = bb at hbe hr'
  generalize markB R = mm at hM hr'
  generalize turnB R = tt at hT hr'
  generalize pagedB R.page = pp at hP hr'
  generalize decide (R.dirty.length + R.opn.length = 0) = dd at hll hr'
  obtain ⟨lsn, work, prev, next, kind, page, key, old, new, dirty, opn⟩ := R
  obtain ⟨⟨KA, Kn, Kc⟩, ⟨OA, On, Oc⟩, ⟨NA, Nn, Nc⟩, ⟨DA, Dn, Dc⟩, ⟨PA, Pn, Pc⟩⟩ := S
  simp only at hbe hkn hon hnn hdn hpn hr' hT hP hll
  simp only at h5
  subst h5
  unfold recC at hM ⊢
  simp only at hM ⊢
  have hbe' := Lib.hid hbe.symm
  have hll' := Lib.hid (show decide ((0 : Int) < (Dn : Int) + (Pn : Int)) = !dd by rw [hll]; simp)
  clear hbe hll
  by_cases q1 : work < 1
  · have q1h := Lib.hid (show decide (1 ≤ work) = false by simp; omega)
    have q1n : decide (work < 1) = true := by simpa using q1
    clear q1
    go_enter Tryd.func14, Tryd.ntmps14
    go_wp2_with fail
    go_ret
    exact ⟨ret_bool (by rw [hr'.out]; simp [q1h.out]), (Turned.refl (fun _ => False) w).alloc _⟩
  · have q1h := Lib.hid (show decide (1 ≤ work) = true by simp; omega)
    have q1n : decide (work < 1) = false := by simpa using q1
    clear q1
    by_cases q2 : prev < 0
    · have q2h := Lib.hid (show decide (0 ≤ prev) = false by simp; omega)
      have q2n : decide (prev < 0) = true := by simpa using q2
      clear q2
      go_enter Tryd.func14, Tryd.ntmps14
      go_wp2_with fail
      go_ret
      exact ⟨ret_bool (by rw [hr'.out]; simp [q2h.out]), (Turned.refl (fun _ => False) w).alloc _⟩
    · have q2h := Lib.hid (show decide (0 ≤ prev) = true by simp; omega)
      have q2n : decide (prev < 0) = false := by simpa using q2
      clear q2
      cases dd with
      | false =>
        have qd := hll'.out; simp only [Bool.not_true, Bool.not_false] at qd
        go_enter Tryd.func14, Tryd.ntmps14
        go_wp2_with fail
        go_ret
        exact ⟨ret_bool (by rw [hr'.out]; simp [q1h.out, q2h.out]), (Turned.refl (fun _ => False) w).alloc _⟩
      | true =>
        have qd := hll'.out; simp only [Bool.not_true, Bool.not_false] at qd
        by_cases qnext : next = 0
        · subst qnext
          cases pp with
          | false =>
            go_enter Tryd.func14, Tryd.ntmps14
            go_wp2_with fail
            refine (hP.out _).mono ?_
            rintro e w3 ⟨rfl, rfl⟩
            go_wp2_with fail
            go_ret
            exact ⟨ret_bool (by rw [hr'.out]; simp [q1h.out, q2h.out]), (Turned.refl (fun _ => False) w).alloc _⟩
          | true =>
            go_enter Tryd.func14, Tryd.ntmps14
            go_wp2_with fail
            refine (hP.out _).mono ?_
            rintro e w3 ⟨rfl, rfl⟩
            go_wp2_with fail
            refine (hT.out _).mono ?_
            rintro e w3 ⟨rfl, t3⟩
            have t3 := Lib.hid t3
            go_wp2_with fail
            go_ret
            exact ⟨ret_bool (by rw [hr'.out]; simp [q1h.out, q2h.out]), ((Turned.refl (fun _ => False) w).alloc _).and_ t3.out⟩
        · have knext : (next == 0) = false := by simpa using qnext
          go_enter Tryd.func14, Tryd.ntmps14
          go_wp2_with fail
          go_ret
          exact ⟨ret_bool (by rw [hr'.out]; simp [q1h.out, q2h.out, qnext]), (Turned.refl (fun _ => False) w).alloc _⟩
set_option maxRecDepth 100000 in
set_option maxHeartbeats 4000000 in
theorem right_2 (R : Rec) (S : RecS) (w : World) (h : RecIs w R S) (h5 : R.kind = 2) : Calls Tryd.prog 14 #[.agg (recC R S)] w (RetNew (.bool (rightR R)) w) := by
  have hbe := bareB_eq h
  have hll := lists_eq h
  have hkn := h.key.few
  have hon := h.old.few
  have hnn := h.new.few
  have hdn := h.dirty.few
  have hpn := h.opn.few
  have hT := Lib.hid (fun (w : World) => turned_any S.K S.O S.N w h.key.few h.old.few h.new.few (turnB R) (turnB_eq h))
  have hP := Lib.hid (fun (w : World) => paged_any R.page w)
  have hM := Lib.hid (fun (w' : World) (t : Turned (fun _ => False) w w') => marked_any R S w' (h.fresh t))
  have hr : rightR R = (decide (1 ≤ R.work) && decide (0 ≤ R.prev) && decide (R.dirty.length + R.opn.length = 0) && (decide (0 ≤ R.next) && pagedB R.page && turnB R)) := by
    unfold rightR kindB
    rw [h5]
    rfl
  have hr' := Lib.hid hr
  clear hr h
  generalize bareB R = bb at hbe hr'
  generalize markB R = mm at hM hr'
  generalize turnB R = tt at hT hr'
  generalize pagedB R.page = pp at hP hr'
  generalize decide (R.dirty.length + R.opn.length = 0) = dd at hll hr'
  obtain ⟨lsn, work, prev, next, kind, page, key, old, new, dirty, opn⟩ := R
  obtain ⟨⟨KA, Kn, Kc⟩, ⟨OA, On, Oc⟩, ⟨NA, Nn, Nc⟩, ⟨DA, Dn, Dc⟩, ⟨PA, Pn, Pc⟩⟩ := S
  simp only at hbe hkn hon hnn hdn hpn hr' hT hP hll
  simp only at h5
  subst h5
  unfold recC at hM ⊢
  simp only at hM ⊢
  have hbe' := Lib.hid hbe.symm
  have hll' := Lib.hid (show decide ((0 : Int) < (Dn : Int) + (Pn : Int)) = !dd by rw [hll]; simp)
  clear hbe hll
  by_cases q1 : work < 1
  · have q1h := Lib.hid (show decide (1 ≤ work) = false by simp; omega)
    have q1n : decide (work < 1) = true := by simpa using q1
    clear q1
    go_enter Tryd.func14, Tryd.ntmps14
    go_wp2_with fail
    go_ret
    exact ⟨ret_bool (by rw [hr'.out]; simp [q1h.out]), (Turned.refl (fun _ => False) w).alloc _⟩
  · have q1h := Lib.hid (show decide (1 ≤ work) = true by simp; omega)
    have q1n : decide (work < 1) = false := by simpa using q1
    clear q1
    by_cases q2 : prev < 0
    · have q2h := Lib.hid (show decide (0 ≤ prev) = false by simp; omega)
      have q2n : decide (prev < 0) = true := by simpa using q2
      clear q2
      go_enter Tryd.func14, Tryd.ntmps14
      go_wp2_with fail
      go_ret
      exact ⟨ret_bool (by rw [hr'.out]; simp [q2h.out]), (Turned.refl (fun _ => False) w).alloc _⟩
    · have q2h := Lib.hid (show decide (0 ≤ prev) = true by simp; omega)
      have q2n : decide (prev < 0) = false := by simpa using q2
      clear q2
      cases dd with
      | false =>
        have qd := hll'.out; simp only [Bool.not_true, Bool.not_false] at qd
        go_enter Tryd.func14, Tryd.ntmps14
        go_wp2_with fail
        go_ret
        exact ⟨ret_bool (by rw [hr'.out]; simp [q1h.out, q2h.out]), (Turned.refl (fun _ => False) w).alloc _⟩
      | true =>
        have qd := hll'.out; simp only [Bool.not_true, Bool.not_false] at qd
        by_cases qn : 0 ≤ next
        · have qn1 : decide (0 ≤ next) = true := by simpa using qn
          cases pp with
          | false =>
            go_enter Tryd.func14, Tryd.ntmps14
            go_wp2_with fail
            refine (hP.out _).mono ?_
            rintro e w3 ⟨rfl, rfl⟩
            go_wp2_with fail
            go_ret
            exact ⟨ret_bool (by rw [hr'.out]; simp [q1h.out, q2h.out, qn]), (Turned.refl (fun _ => False) w).alloc _⟩
          | true =>
            go_enter Tryd.func14, Tryd.ntmps14
            go_wp2_with fail
            refine (hP.out _).mono ?_
            rintro e w3 ⟨rfl, rfl⟩
            go_wp2_with fail
            refine (hT.out _).mono ?_
            rintro e w3 ⟨rfl, t3⟩
            have t3 := Lib.hid t3
            go_wp2_with fail
            go_ret
            exact ⟨ret_bool (by rw [hr'.out]; simp [q1h.out, q2h.out, qn]), ((Turned.refl (fun _ => False) w).alloc _).and_ t3.out⟩
        · have qn1 : decide (0 ≤ next) = false := by simpa using qn
          go_enter Tryd.func14, Tryd.ntmps14
          go_wp2_with fail
          go_ret
          exact ⟨ret_bool (by rw [hr'.out]; simp [q1h.out, q2h.out, qn1]), (Turned.refl (fun _ => False) w).alloc _⟩
set_option maxRecDepth 100000 in
set_option maxHeartbeats 4000000 in
theorem right_3 (R : Rec) (S : RecS) (w : World) (h : RecIs w R S) (h5 : R.kind = 3) : Calls Tryd.prog 14 #[.agg (recC R S)] w (RetNew (.bool (rightR R)) w) := by
  have hbe := bareB_eq h
  have hll := lists_eq h
  have hkn := h.key.few
  have hon := h.old.few
  have hnn := h.new.few
  have hdn := h.dirty.few
  have hpn := h.opn.few
  have hT := Lib.hid (fun (w : World) => turned_any S.K S.O S.N w h.key.few h.old.few h.new.few (turnB R) (turnB_eq h))
  have hP := Lib.hid (fun (w : World) => paged_any R.page w)
  have hM := Lib.hid (fun (w' : World) (t : Turned (fun _ => False) w w') => marked_any R S w' (h.fresh t))
  have hr : rightR R = (decide (1 ≤ R.work) && decide (0 ≤ R.prev) && decide (R.dirty.length + R.opn.length = 0) && (decide (R.next = 0) && decide (R.page = 0) && bareB R)) := by
    unfold rightR kindB
    rw [h5]
    rfl
  have hr' := Lib.hid hr
  clear hr h
  generalize bareB R = bb at hbe hr'
  generalize markB R = mm at hM hr'
  generalize turnB R = tt at hT hr'
  generalize pagedB R.page = pp at hP hr'
  generalize decide (R.dirty.length + R.opn.length = 0) = dd at hll hr'
  obtain ⟨lsn, work, prev, next, kind, page, key, old, new, dirty, opn⟩ := R
  obtain ⟨⟨KA, Kn, Kc⟩, ⟨OA, On, Oc⟩, ⟨NA, Nn, Nc⟩, ⟨DA, Dn, Dc⟩, ⟨PA, Pn, Pc⟩⟩ := S
  simp only at hbe hkn hon hnn hdn hpn hr' hT hP hll
  simp only at h5
  subst h5
  unfold recC at hM ⊢
  simp only at hM ⊢
  have hbe' := Lib.hid hbe.symm
  have hll' := Lib.hid (show decide ((0 : Int) < (Dn : Int) + (Pn : Int)) = !dd by rw [hll]; simp)
  clear hbe hll
  by_cases q1 : work < 1
  · have q1h := Lib.hid (show decide (1 ≤ work) = false by simp; omega)
    have q1n : decide (work < 1) = true := by simpa using q1
    clear q1
    go_enter Tryd.func14, Tryd.ntmps14
    go_wp2_with fail
    go_ret
    exact ⟨ret_bool (by rw [hr'.out]; simp [q1h.out]), (Turned.refl (fun _ => False) w).alloc _⟩
  · have q1h := Lib.hid (show decide (1 ≤ work) = true by simp; omega)
    have q1n : decide (work < 1) = false := by simpa using q1
    clear q1
    by_cases q2 : prev < 0
    · have q2h := Lib.hid (show decide (0 ≤ prev) = false by simp; omega)
      have q2n : decide (prev < 0) = true := by simpa using q2
      clear q2
      go_enter Tryd.func14, Tryd.ntmps14
      go_wp2_with fail
      go_ret
      exact ⟨ret_bool (by rw [hr'.out]; simp [q2h.out]), (Turned.refl (fun _ => False) w).alloc _⟩
    · have q2h := Lib.hid (show decide (0 ≤ prev) = true by simp; omega)
      have q2n : decide (prev < 0) = false := by simpa using q2
      clear q2
      cases dd with
      | false =>
        have qd := hll'.out; simp only [Bool.not_true, Bool.not_false] at qd
        go_enter Tryd.func14, Tryd.ntmps14
        go_wp2_with fail
        go_ret
        exact ⟨ret_bool (by rw [hr'.out]; simp [q1h.out, q2h.out]), (Turned.refl (fun _ => False) w).alloc _⟩
      | true =>
        have qd := hll'.out; simp only [Bool.not_true, Bool.not_false] at qd
        by_cases qnext : next = 0
        · subst qnext
          by_cases qpage : page = 0
          · subst qpage
            cases bb with
            | false =>
              have qb := hbe'.out
              go_enter Tryd.func14, Tryd.ntmps14
              go_wp2_with fail
              go_ret
              exact ⟨ret_bool (by rw [hr'.out]; simp [q1h.out, q2h.out]), (Turned.refl (fun _ => False) w).alloc _⟩
            | true =>
              have qb := hbe'.out
              go_enter Tryd.func14, Tryd.ntmps14
              go_wp2_with fail
              go_ret
              exact ⟨ret_bool (by rw [hr'.out]; simp [q1h.out, q2h.out]), (Turned.refl (fun _ => False) w).alloc _⟩
          · have kpage : (page == 0) = false := by simpa using qpage
            go_enter Tryd.func14, Tryd.ntmps14
            go_wp2_with fail
            go_ret
            exact ⟨ret_bool (by rw [hr'.out]; simp [q1h.out, q2h.out, qpage]), (Turned.refl (fun _ => False) w).alloc _⟩
        · have knext : (next == 0) = false := by simpa using qnext
          go_enter Tryd.func14, Tryd.ntmps14
          go_wp2_with fail
          go_ret
          exact ⟨ret_bool (by rw [hr'.out]; simp [q1h.out, q2h.out, qnext]), (Turned.refl (fun _ => False) w).alloc _⟩
set_option maxRecDepth 100000 in
set_option maxHeartbeats 4000000 in
theorem right_4 (R : Rec) (S : RecS) (w : World) (h : RecIs w R S) (h5 : R.kind = 4) : Calls Tryd.prog 14 #[.agg (recC R S)] w (RetNew (.bool (rightR R)) w) := by
  have hbe := bareB_eq h
  have hll := lists_eq h
  have hkn := h.key.few
  have hon := h.old.few
  have hnn := h.new.few
  have hdn := h.dirty.few
  have hpn := h.opn.few
  have hT := Lib.hid (fun (w : World) => turned_any S.K S.O S.N w h.key.few h.old.few h.new.few (turnB R) (turnB_eq h))
  have hP := Lib.hid (fun (w : World) => paged_any R.page w)
  have hM := Lib.hid (fun (w' : World) (t : Turned (fun _ => False) w w') => marked_any R S w' (h.fresh t))
  have hr : rightR R = (decide (1 ≤ R.work) && decide (0 ≤ R.prev) && decide (R.dirty.length + R.opn.length = 0) && (decide (R.next = 0) && decide (R.page = 0) && bareB R)) := by
    unfold rightR kindB
    rw [h5]
    rfl
  have hr' := Lib.hid hr
  clear hr h
  generalize bareB R = bb at hbe hr'
  generalize markB R = mm at hM hr'
  generalize turnB R = tt at hT hr'
  generalize pagedB R.page = pp at hP hr'
  generalize decide (R.dirty.length + R.opn.length = 0) = dd at hll hr'
  obtain ⟨lsn, work, prev, next, kind, page, key, old, new, dirty, opn⟩ := R
  obtain ⟨⟨KA, Kn, Kc⟩, ⟨OA, On, Oc⟩, ⟨NA, Nn, Nc⟩, ⟨DA, Dn, Dc⟩, ⟨PA, Pn, Pc⟩⟩ := S
  simp only at hbe hkn hon hnn hdn hpn hr' hT hP hll
  simp only at h5
  subst h5
  unfold recC at hM ⊢
  simp only at hM ⊢
  have hbe' := Lib.hid hbe.symm
  have hll' := Lib.hid (show decide ((0 : Int) < (Dn : Int) + (Pn : Int)) = !dd by rw [hll]; simp)
  clear hbe hll
  by_cases q1 : work < 1
  · have q1h := Lib.hid (show decide (1 ≤ work) = false by simp; omega)
    have q1n : decide (work < 1) = true := by simpa using q1
    clear q1
    go_enter Tryd.func14, Tryd.ntmps14
    go_wp2_with fail
    go_ret
    exact ⟨ret_bool (by rw [hr'.out]; simp [q1h.out]), (Turned.refl (fun _ => False) w).alloc _⟩
  · have q1h := Lib.hid (show decide (1 ≤ work) = true by simp; omega)
    have q1n : decide (work < 1) = false := by simpa using q1
    clear q1
    by_cases q2 : prev < 0
    · have q2h := Lib.hid (show decide (0 ≤ prev) = false by simp; omega)
      have q2n : decide (prev < 0) = true := by simpa using q2
      clear q2
      go_enter Tryd.func14, Tryd.ntmps14
      go_wp2_with fail
      go_ret
      exact ⟨ret_bool (by rw [hr'.out]; simp [q2h.out]), (Turned.refl (fun _ => False) w).alloc _⟩
    · have q2h := Lib.hid (show decide (0 ≤ prev) = true by simp; omega)
      have q2n : decide (prev < 0) = false := by simpa using q2
      clear q2
      cases dd with
      | false =>
        have qd := hll'.out; simp only [Bool.not_true, Bool.not_false] at qd
        go_enter Tryd.func14, Tryd.ntmps14
        go_wp2_with fail
        go_ret
        exact ⟨ret_bool (by rw [hr'.out]; simp [q1h.out, q2h.out]), (Turned.refl (fun _ => False) w).alloc _⟩
      | true =>
        have qd := hll'.out; simp only [Bool.not_true, Bool.not_false] at qd
        by_cases qnext : next = 0
        · subst qnext
          by_cases qpage : page = 0
          · subst qpage
            cases bb with
            | false =>
              have qb := hbe'.out
              go_enter Tryd.func14, Tryd.ntmps14
              go_wp2_with fail
              go_ret
              exact ⟨ret_bool (by rw [hr'.out]; simp [q1h.out, q2h.out]), (Turned.refl (fun _ => False) w).alloc _⟩
            | true =>
              have qb := hbe'.out
              go_enter Tryd.func14, Tryd.ntmps14
              go_wp2_with fail
              go_ret
              exact ⟨ret_bool (by rw [hr'.out]; simp [q1h.out, q2h.out]), (Turned.refl (fun _ => False) w).alloc _⟩
          · have kpage : (page == 0) = false := by simpa using qpage
            go_enter Tryd.func14, Tryd.ntmps14
            go_wp2_with fail
            go_ret
            exact ⟨ret_bool (by rw [hr'.out]; simp [q1h.out, q2h.out, qpage]), (Turned.refl (fun _ => False) w).alloc _⟩
        · have knext : (next == 0) = false := by simpa using qnext
          go_enter Tryd.func14, Tryd.ntmps14
          go_wp2_with fail
          go_ret
          exact ⟨ret_bool (by rw [hr'.out]; simp [q1h.out, q2h.out, qnext]), (Turned.refl (fun _ => False) w).alloc _⟩
set_option maxRecDepth 100000 in
set_option maxHeartbeats 4000000 in
theorem right_6 (R : Rec) (S : RecS) (w : World) (h : RecIs w R S) (h5 : R.kind = 6) : Calls Tryd.prog 14 #[.agg (recC R S)] w (RetNew (.bool (rightR R)) w) := by
  have hbe := bareB_eq h
  have hll := lists_eq h
  have hkn := h.key.few
  have hon := h.old.few
  have hnn := h.new.few
  have hdn := h.dirty.few
  have hpn := h.opn.few
  have hT := Lib.hid (fun (w : World) => turned_any S.K S.O S.N w h.key.few h.old.few h.new.few (turnB R) (turnB_eq h))
  have hP := Lib.hid (fun (w : World) => paged_any R.page w)
  have hM := Lib.hid (fun (w' : World) (t : Turned (fun _ => False) w w') => marked_any R S w' (h.fresh t))
  have hr : rightR R = (decide (1 ≤ R.work) && decide (0 ≤ R.prev) && decide (R.dirty.length + R.opn.length = 0) && (pagedB R.page && decide (0 < R.next) && decide (R.next < 8192) && bareB R)) := by
    unfold rightR kindB
    rw [h5]
    rfl
  have hr' := Lib.hid hr
  clear hr h
  generalize bareB R = bb at hbe hr'
  generalize markB R = mm at hM hr'
  generalize turnB R = tt at hT hr'
  generalize pagedB R.page = pp at hP hr'
  generalize decide (R.dirty.length + R.opn.length = 0) = dd at hll hr'
  obtain ⟨lsn, work, prev, next, kind, page, key, old, new, dirty, opn⟩ := R
  obtain ⟨⟨KA, Kn, Kc⟩, ⟨OA, On, Oc⟩, ⟨NA, Nn, Nc⟩, ⟨DA, Dn, Dc⟩, ⟨PA, Pn, Pc⟩⟩ := S
  simp only at hbe hkn hon hnn hdn hpn hr' hT hP hll
  simp only at h5
  subst h5
  unfold recC at hM ⊢
  simp only at hM ⊢
  have hbe' := Lib.hid hbe.symm
  have hll' := Lib.hid (show decide ((0 : Int) < (Dn : Int) + (Pn : Int)) = !dd by rw [hll]; simp)
  clear hbe hll
  by_cases q1 : work < 1
  · have q1h := Lib.hid (show decide (1 ≤ work) = false by simp; omega)
    have q1n : decide (work < 1) = true := by simpa using q1
    clear q1
    go_enter Tryd.func14, Tryd.ntmps14
    go_wp2_with fail
    go_ret
    exact ⟨ret_bool (by rw [hr'.out]; simp [q1h.out]), (Turned.refl (fun _ => False) w).alloc _⟩
  · have q1h := Lib.hid (show decide (1 ≤ work) = true by simp; omega)
    have q1n : decide (work < 1) = false := by simpa using q1
    clear q1
    by_cases q2 : prev < 0
    · have q2h := Lib.hid (show decide (0 ≤ prev) = false by simp; omega)
      have q2n : decide (prev < 0) = true := by simpa using q2
      clear q2
      go_enter Tryd.func14, Tryd.ntmps14
      go_wp2_with fail
      go_ret
      exact ⟨ret_bool (by rw [hr'.out]; simp [q2h.out]), (Turned.refl (fun _ => False) w).alloc _⟩
    · have q2h := Lib.hid (show decide (0 ≤ prev) = true by simp; omega)
      have q2n : decide (prev < 0) = false := by simpa using q2
      clear q2
      cases dd with
      | false =>
        have qd := hll'.out; simp only [Bool.not_true, Bool.not_false] at qd
        go_enter Tryd.func14, Tryd.ntmps14
        go_wp2_with fail
        go_ret
        exact ⟨ret_bool (by rw [hr'.out]; simp [q1h.out, q2h.out]), (Turned.refl (fun _ => False) w).alloc _⟩
      | true =>
        have qd := hll'.out; simp only [Bool.not_true, Bool.not_false] at qd
        cases pp with
        | false =>
          go_enter Tryd.func14, Tryd.ntmps14
          go_wp2_with fail
          refine (hP.out _).mono ?_
          rintro e w3 ⟨rfl, rfl⟩
          go_wp2_with fail
          go_ret
          exact ⟨ret_bool (by rw [hr'.out]; simp [q1h.out, q2h.out]), (Turned.refl (fun _ => False) w).alloc _⟩
        | true =>
          by_cases qn : 0 < next
          · by_cases qm : next < 8192
            · have qz := Lib.hid (And.intro qn qm)
              cases bb with
              | false =>
                have qb := hbe'.out
                go_enter Tryd.func14, Tryd.ntmps14
                go_wp2_with fail
                refine (hP.out _).mono ?_
                rintro e w3 ⟨rfl, rfl⟩
                go_wp2_with fail
                go_ret
                exact ⟨ret_bool (by rw [hr'.out]; simp [q1h.out, q2h.out, qn, qm]), (Turned.refl (fun _ => False) w).alloc _⟩
              | true =>
                have qb := hbe'.out
                go_enter Tryd.func14, Tryd.ntmps14
                go_wp2_with fail
                refine (hP.out _).mono ?_
                rintro e w3 ⟨rfl, rfl⟩
                go_wp2_with fail
                go_ret
                exact ⟨ret_bool (by rw [hr'.out]; simp [q1h.out, q2h.out, qn, qm]), (Turned.refl (fun _ => False) w).alloc _⟩
            · have qm1 : decide (next < 8192) = false := by simpa using qm
              clear qm
              go_enter Tryd.func14, Tryd.ntmps14
              go_wp2_with fail
              refine (hP.out _).mono ?_
              rintro e w3 ⟨rfl, rfl⟩
              go_wp2_with fail
              go_ret
              exact ⟨ret_bool (by rw [hr'.out]; simp [q1h.out, q2h.out, qn, qm1]), (Turned.refl (fun _ => False) w).alloc _⟩
          · have qn1 : decide (0 < next) = false := by simpa using qn
            clear qn
            go_enter Tryd.func14, Tryd.ntmps14
            go_wp2_with fail
            refine (hP.out _).mono ?_
            rintro e w3 ⟨rfl, rfl⟩
            go_wp2_with fail
            go_ret
            exact ⟨ret_bool (by rw [hr'.out]; simp [q1h.out, q2h.out, qn1]), (Turned.refl (fun _ => False) w).alloc _⟩
set_option maxRecDepth 100000 in
set_option maxHeartbeats 4000000 in
theorem right_no (R : Rec) (S : RecS) (w : World) (h : RecIs w R S) (h1 : R.kind ≠ 1) (h2 : R.kind ≠ 2) (h3 : R.kind ≠ 3) (h4 : R.kind ≠ 4) (h5 : R.kind ≠ 5) (h6 : R.kind ≠ 6) : Calls Tryd.prog 14 #[.agg (recC R S)] w (RetNew (.bool (rightR R)) w) := by
  have hbe := bareB_eq h
  have hll := lists_eq h
  have hkn := h.key.few
  have hon := h.old.few
  have hnn := h.new.few
  have hdn := h.dirty.few
  have hpn := h.opn.few
  have hT := Lib.hid (fun (w : World) => turned_any S.K S.O S.N w h.key.few h.old.few h.new.few (turnB R) (turnB_eq h))
  have hP := Lib.hid (fun (w : World) => paged_any R.page w)
  have hM := Lib.hid (fun (w' : World) (t : Turned (fun _ => False) w w') => marked_any R S w' (h.fresh t))
  have hr : rightR R = false := by
    unfold rightR kindB
    rw [if_neg h5, if_neg h1, if_neg h2, if_neg (by omega), if_neg h6]
    simp
  have hr' := Lib.hid hr
  have k1 : (R.kind == 1) = false := by simpa using h1
  have k2 : (R.kind == 2) = false := by simpa using h2
  have k3 : (R.kind == 3) = false := by simpa using h3
  have k4 : (R.kind == 4) = false := by simpa using h4
  have k5 : (R.kind == 5) = false := by simpa using h5
  have k6 : (R.kind == 6) = false := by simpa using h6
  clear hr h h1 h2 h3 h4 h5 h6
  generalize bareB R = bb at hbe hr'
  generalize markB R = mm at hM hr'
  generalize turnB R = tt at hT hr'
  generalize pagedB R.page = pp at hP hr'
  generalize decide (R.dirty.length + R.opn.length = 0) = dd at hll hr'
  obtain ⟨lsn, work, prev, next, kind, page, key, old, new, dirty, opn⟩ := R
  obtain ⟨⟨KA, Kn, Kc⟩, ⟨OA, On, Oc⟩, ⟨NA, Nn, Nc⟩, ⟨DA, Dn, Dc⟩, ⟨PA, Pn, Pc⟩⟩ := S
  simp only at hbe hkn hon hnn hdn hpn hr' hT hP hll
  simp only at k1 k2 k3 k4 k5 k6
  unfold recC at hM ⊢
  simp only at hM ⊢
  have hbe' := Lib.hid hbe.symm
  have hll' := Lib.hid (show decide ((0 : Int) < (Dn : Int) + (Pn : Int)) = !dd by rw [hll]; simp)
  clear hbe hll
  by_cases q1 : work < 1
  · have q1h := Lib.hid (show decide (1 ≤ work) = false by simp; omega)
    have q1n : decide (work < 1) = true := by simpa using q1
    clear q1
    go_enter Tryd.func14, Tryd.ntmps14
    go_wp2_with fail
    go_ret
    exact ⟨ret_bool (by rw [hr'.out]), (Turned.refl (fun _ => False) w).alloc _⟩
  · have q1h := Lib.hid (show decide (1 ≤ work) = true by simp; omega)
    have q1n : decide (work < 1) = false := by simpa using q1
    clear q1
    by_cases q2 : prev < 0
    · have q2h := Lib.hid (show decide (0 ≤ prev) = false by simp; omega)
      have q2n : decide (prev < 0) = true := by simpa using q2
      clear q2
      go_enter Tryd.func14, Tryd.ntmps14
      go_wp2_with fail
      go_ret
      exact ⟨ret_bool (by rw [hr'.out]), (Turned.refl (fun _ => False) w).alloc _⟩
    · have q2h := Lib.hid (show decide (0 ≤ prev) = true by simp; omega)
      have q2n : decide (prev < 0) = false := by simpa using q2
      clear q2
      cases dd with
      | false =>
        have qd := hll'.out; simp only [Bool.not_true, Bool.not_false] at qd
        go_enter Tryd.func14, Tryd.ntmps14
        go_wp2_with fail
        go_ret
        exact ⟨ret_bool (by rw [hr'.out]), (Turned.refl (fun _ => False) w).alloc _⟩
      | true =>
        have qd := hll'.out; simp only [Bool.not_true, Bool.not_false] at qd
        go_enter Tryd.func14, Tryd.ntmps14
        go_wp2_with fail
        go_ret
        exact ⟨ret_bool (by rw [hr'.out]), (Turned.refl (fun _ => False) w).alloc _⟩
theorem right_any (R : Rec) (S : RecS) (w : World) (h : RecIs w R S) : Calls Tryd.prog 14 #[.agg (recC R S)] w (RetNew (.bool (rightR R)) w) := by
  by_cases h1 : R.kind = 1
  · exact right_1 R S w h h1
  · by_cases h2 : R.kind = 2
    · exact right_2 R S w h h2
    · by_cases h3 : R.kind = 3
      · exact right_3 R S w h h3
      · by_cases h4 : R.kind = 4
        · exact right_4 R S w h h4
        · by_cases h5 : R.kind = 5
          · exact right_mark R S w h h5
          · by_cases h6 : R.kind = 6
            · exact right_6 R S w h h6
            · exact right_no R S w h h1 h2 h3 h4 h5 h6
end Go.Proofs.YtfheikmjjijdpaaDoor

