/-
  LogKeeps' log: Trim; what Open wants of the disk, and what it leaves: plain. No program in sight.
-/
import Derived.Test.YtfheikmjjijdpaaDoorQKpU
namespace Go.Proofs.YtfheikmjjijdpaaDoor
open Go.RowKit Go.Maps
set_option linter.unusedVariables false
set_option linter.unusedSimpArgs false

theorem lsns_strict (num : Int) : ∀ (Rs : List Rec) (p0 : Nat), AllOk Rs → (lsnsL num p0 Rs).Pairwise (· < ·)
  | [], _, _ => by simp [lsnsL]
  | A :: t, p0, hok => by
    have h3 := (rput_len (hok A (List.mem_cons_self ..)).1 (hok A (List.mem_cons_self ..)).2).1
    have e : lsnsL num p0 (A :: t) = (num * 512 + (p0 : Int) + 1) :: lsnsL num (p0 + (putR A).length) t := by simp [lsnsL]
    rw [e, List.pairwise_cons]
    exact ⟨fun y hy => by have := lsns_ge num t (p0 + (putR A).length) y hy; omega, lsns_strict num t _ (fun R hR => hok R (List.mem_cons_of_mem _ hR))⟩
theorem ls_strict : ∀ (ss : List Sc) (n : Int) (p : Option Sc), Chn n p ss → (∀ s ∈ ss, s.Ok) → (lsAll ss).Pairwise (· < ·)
  | [], _, _, _, _ => by simp [lsAll]
  | a :: t, n, p, hc, hok => by
    rw [show lsAll (a :: t) = lsnsL a.num 0 a.Rs ++ lsAll t by simp [lsAll], List.pairwise_append]
    refine ⟨lsns_strict _ _ _ (hok a (List.mem_cons_self ..)).all, ls_strict t _ _ hc.2.2 (fun s hs => hok s (List.mem_cons_of_mem _ hs)), fun x hx y hy => ?_⟩
    have h1 := lsns_lt a.num a.Rs 0 (hok a (List.mem_cons_self ..)).all x hx
    have h2 := (hok a (List.mem_cons_self ..)).len
    have h3 := ls_ge t (n + 1) (some a) hc.2.2 y hy
    unfold Sc.len at h2
    rw [hc.1] at h1
    omega
theorem count_at : ∀ (l : List Int) (k : Nat) (x : Int), l.Pairwise (· < ·) → l[k]? = some x → l.countP (· < x) = k
  | [], _, _, _, h => by cases h
  | a :: t, 0, x, hp, h => by
    injection h with h
    subst h
    rw [List.countP_cons_of_neg (by simp), List.countP_eq_zero]
    intro y hy
    have := (List.pairwise_cons.1 hp).1 y hy
    simp; omega
  | a :: t, k + 1, x, hp, h => by
    have hx : x ∈ t := List.mem_of_getElem? (i := k) h
    have h1 := (List.pairwise_cons.1 hp).1 x hx
    rw [List.countP_cons_of_pos (by simpa using h1), count_at t k x (List.pairwise_cons.1 hp).2 h]
theorem find_at : ∀ (L : List Sc) (c : Nat), c < (recsOf L).length → ∃ i s, L[i]? = some s ∧ (recsOf (L.take i)).length ≤ c ∧ c - (recsOf (L.take i)).length < s.Rs.length
  | [], c, h => by simp [recsOf] at h
  | a :: t, c, h => by
    by_cases hc : c < a.Rs.length
    · exact ⟨0, a, rfl, by simp [recsOf], by simpa [recsOf] using hc⟩
    · rw [show recsOf (a :: t) = a.Rs ++ recsOf t by simp [recsOf], List.length_append] at h
      obtain ⟨i, s, h1, h2, h3⟩ := find_at t (c - a.Rs.length) (by omega)
      have e : (recsOf ((a :: t).take (i + 1))).length = a.Rs.length + (recsOf (t.take i)).length := by rw [List.take_succ_cons, show recsOf (a :: t.take i) = a.Rs ++ recsOf (t.take i) by simp [recsOf], List.length_append]
      exact ⟨i + 1, s, h1, by rw [e]; omega, by rw [e]; omega⟩
theorem ls_head {s0 : Sc} {t : List Sc} {cut : Nat} (hc : cut < s0.Rs.length) : ((lsAll (s0 :: t)).drop cut)[0]? = some (s0.num * 512 + ((putsL (s0.Rs.take cut)).length : Int) + 1) := by
  rw [List.getElem?_drop, Nat.add_zero, show lsAll (s0 :: t) = lsnsL s0.num 0 s0.Rs ++ lsAll t by simp [lsAll], List.getElem?_append_left (by rw [lsnsL_length]; exact hc)]
  have h2 : (lsnsL s0.num 0 s0.Rs)[cut]? = ((lsnsL s0.num 0 s0.Rs).drop cut)[0]? := by rw [List.getElem?_drop, Nat.add_zero]
  rw [h2, lsnsL_cut s0.num s0.Rs cut (Nat.le_of_lt hc)]
  cases hd : s0.Rs.drop cut with
  | nil => have := congrArg List.length hd; simp at this; omega
  | cons R t2 => simp [lsnsL]
structure KTrim (k k' : KS) (X : LgM) (kk i : Nat) (x : Int) : Prop where
  lt : i < X.shs.length
  drop : ∀ (j : Nat) (t : ShM), 1 ≤ j → j ≤ i → X.shs[j]? = some t → t.num * 512 + 1 ≤ x
  stop : ∀ t, X.shs[i + 1]? = some t → x < t.num * 512 + 1
  cnt : X.ls.countP (· < x) = kk
  x1 : 1 ≤ x
  x2 : x ≤ (k.N + 5) * 512 + 600
  ok : KOk k'
  T : k'.T = k.T
  E : k'.E = k.E
  all : k'.all = k.all.drop kk
  safe : k'.safe = k.safe - kk
  num : k'.N + (k'.sheets.length : Int) = k.N + (k.sheets.length : Int)
  mem : ∀ al ao, KMem k' (trimX X kk i x al ao)
theorem k_trim {k : KS} {X : LgM} {kk : Nat} {x : Int} (h : KOk k) (m : KMem k X) (hkk : kk < k.safe) (hx : X.ls[kk]? = some x) : ∃ i k', KTrim k k' X kk i x := by
  have hsafe : k.safe = (recsOf (k.di ++ k.od)).length - k.cut := rfl
  obtain ⟨i, s, h1, h2, h3⟩ := find_at (k.di ++ k.od) (k.cut + kk) (by omega)
  have hil := (List.getElem?_eq_some_iff.1 h1).1
  rw [List.length_append] at hil
  have hid : i ≤ k.di.length := by have := h.odl; omega
  have htk : (k.di ++ k.od).take i = k.di.take i := by rw [List.take_append_of_le_length hid]
  rw [htk] at h2 h3
  obtain ⟨A, B, eAB, hA, hB⟩ := m.shs
  have hAl := congrArg List.length hA
  rw [List.length_map, List.length_map] at hAl
  -- the sheet in memory
  have hsplit : k.sheets = k.di.take i ++ (k.di.drop i ++ k.nw) := by unfold KS.sheets; rw [← List.append_assoc, List.take_append_drop]
  have hne : k.di.drop i ++ k.nw ≠ [] := by
    by_cases hd : i < k.di.length
    · intro e
      have := (List.append_eq_nil_iff.1 e).1
      have := congrArg List.length this
      rw [List.length_drop] at this
      simp at this
      omega
    · cases ho : k.od with
      | nil => rw [ho] at hil; simp at hil; omega
      | cons o od' =>
        have ho' : od' = [] := by have := h.odl; rw [ho] at this; cases od' with | nil => rfl | cons _ _ => simp at this
        subst ho'
        obtain ⟨s1, t1, Rx, e1, _⟩ := h.ovr o ho
        rw [e1]; simp
  obtain ⟨s0, t0, hst⟩ := List.exists_cons_of_ne_nil hne
  have hs0 : k.sheets[i]? = some s0 := by
    rw [hsplit, List.getElem?_append_right (by rw [List.length_take]; omega), List.length_take, Nat.min_eq_left hid, Nat.sub_self, hst]; rfl
  have hlen0 : (recsOf (k.di.take i)).length = (lsAll (k.di.take i)).length := (lsAll_recs _).symm
  obtain ⟨cut', hcut'⟩ : ∃ c, c = k.cut + kk - (recsOf (k.di.take i)).length := ⟨_, rfl⟩
  rw [← hcut'] at h3
  have hcs0 : cut' < s0.Rs.length := by
    by_cases hd : i < k.di.length
    · have e1 : k.di.drop i = k.di[i] :: k.di.drop (i + 1) := List.drop_eq_getElem_cons hd
      rw [e1] at hst
      injection hst with hst _
      rw [List.getElem?_append_left hd, List.getElem?_eq_getElem hd] at h1
      injection h1 with h1
      rw [← hst, h1]; exact h3
    · have e0 : k.di.drop i = [] := List.drop_of_length_le (by omega)
      rw [List.getElem?_append_right (by omega)] at h1
      cases ho : k.od with
      | nil => rw [ho] at h1; cases h1
      | cons o od' =>
        have ho' : od' = [] := by have := h.odl; rw [ho] at this; cases od' with | nil => rfl | cons _ _ => simp at this
        subst ho'
        obtain ⟨s1, t1, Rx, e1, e2, _⟩ := h.ovr o ho
        rw [e0, e1, List.nil_append] at hst
        injection hst with hst _
        have hi0 : i - k.di.length = 0 := by omega
        rw [ho, hi0] at h1
        injection h1 with h1
        rw [← hst, e2, List.length_append, h1]
        omega
  have hls : X.ls.drop kk = (lsAll (k.di.drop i ++ k.nw)).drop cut' := by
    rw [m.ls, List.drop_drop, hsplit, lsAll_append, List.drop_append, List.drop_of_length_le (by omega), List.nil_append, ← hlen0, hcut']
  have hxv : x = s0.num * 512 + ((putsL (s0.Rs.take cut')).length : Int) + 1 := by
    have h9 : (X.ls.drop kk)[0]? = some x := by rw [List.getElem?_drop, Nat.add_zero]; exact hx
    rw [hls, hst, ls_head hcs0] at h9
    injection h9 with h9
    exact h9.symm
  have hs0O := h.okA s0 (List.mem_of_getElem? hs0)
  have hs0n := chn_at h.chnA hs0
  have hpl : (putsL (s0.Rs.take cut')).length ≤ 496 := by
    have := hs0O.len
    unfold Sc.len at this
    rw [putsL_cut s0.Rs cut', List.length_append] at this
    omega
  have hn0 := h.dur.n0
  have hfew := h.few
  rw [List.length_append] at hfew
  have hml := m.len
  have hil2 : i < k.sheets.length := (List.getElem?_eq_some_iff.1 hs0).1
  have hnum : ∀ (j : Nat) (t : ShM), X.shs[j]? = some t → t.num = k.N + (j : Int) := fun j t ht => by
    have hj := (List.getElem?_eq_some_iff.1 ht).1
    obtain ⟨sj, hsj⟩ : ∃ sj, k.sheets[j]? = some sj := ⟨_, List.getElem?_eq_getElem (by omega)⟩
    obtain ⟨m2, f1, f2, _⟩ := m.at_ hsj
    rw [ht] at f1
    injection f1 with f1
    rw [f1, f2]
    exact chn_at h.chnA hsj
  have hi5 : (i : Int) ≤ 4 := by unfold KS.sheets at hil2; rw [List.length_append] at hil2; omega
  have hLne : k.di.drop i ++ k.od ≠ [] := by
    intro e
    have h9 := congrArg List.length e
    rw [List.length_append, List.length_drop, List.length_nil] at h9
    omega
  have hdur : Dur k.T (k.N + (i : Int)) (k.di.drop i ++ k.od) k.E := by
    have h9 := h.dur
    rw [← List.take_append_drop i k.di, List.append_assoc] at h9
    have h10 := dur_trim h9 hLne
    rw [List.length_take, Nat.min_eq_left hid] at h10
    exact h10
  refine ⟨i, ⟨k.N + (i : Int), k.T, cut', k.di.drop i, k.od, k.nw, k.lost, k.E⟩, ⟨by omega, fun j t h1' h2' ht => ?_, fun t ht => ?_, ?_, by rw [hxv, hs0n]; omega, by rw [hxv, hs0n]; omega, ?_, rfl, rfl, ?_, ?_, ?_, fun al ao => ⟨m.first, m.count, m.turn, ?_, ?_, ?_⟩⟩⟩
  · rw [hnum j t ht, hxv, hs0n]; omega
  · rw [hnum (i + 1) t ht, hxv, hs0n]; omega
  · exact count_at _ _ _ (by rw [m.ls]; exact (ls_strict k.sheets k.N none h.chnA h.okA).sublist (List.drop_sublist _ _)) hx
  · refine ⟨hdur, h.T1, ?_, h.ok, ?_, h.odl, h.ovr, fun s1 e => ?_, fun e => ?_, fun e => absurd e hLne, hne⟩
    · show Chn (k.N + (i : Int) + ((k.di.drop i).length : Int)) (lastOr none (k.di.drop i)) k.nw
      have e1 : k.N + (i : Int) + ((k.di.drop i).length : Int) = k.N + (k.di.length : Int) := by rw [List.length_drop]; omega
      rw [e1]
      cases hdd : k.di.drop i with
      | nil => exact h.chn.bare
      | cons a b =>
        have h9 := h.chn
        rw [← List.take_append_drop i k.di, lastOr_append, hdd, lastOr_cons] at h9
        rw [lastOr_cons]
        have e2 : (((k.di.take i ++ a :: b).length : Nat) : Int) = (k.di.length : Int) := by rw [← hdd, List.take_append_drop]
        rw [e2] at h9
        exact h9
    · show (k.di.drop i ++ k.nw).length ≤ 5
      rw [List.length_append, List.length_drop]; omega
    · have h9 : (k.di ++ k.od)[i]? = some s1 := by
        have e' : (k.di.drop i ++ k.od)[0]? = some s1 := e
        rw [← List.take_append_drop i k.di, List.append_assoc, List.getElem?_append_right (by rw [List.length_take]; omega), List.length_take, Nat.min_eq_left hid, Nat.sub_self]
        exact e'
      rw [h1] at h9
      injection h9 with h9
      rw [← h9]; exact h3
    · have := h.lost e
      exact absurd (List.append_eq_nil_iff.1 this) (fun q => hLne (by rw [q.1, q.2]; simp))
  · show (recsOf (k.di.drop i ++ k.nw)).drop cut' = ((recsOf k.sheets).drop k.cut).drop kk
    have e9 : (recsOf (k.di.take i) ++ recsOf (k.di.drop i ++ k.nw)).drop (k.cut + kk) = (recsOf (k.di.drop i ++ k.nw)).drop cut' := by rw [List.drop_append, List.drop_of_length_le h2, List.nil_append, hcut']
    rw [List.drop_drop, hsplit, recsOf_append (k.di.take i) (k.di.drop i ++ k.nw)]
    exact e9.symm
  · show (recsOf (k.di.drop i ++ k.od)).length - cut' = _
    rw [hsafe]
    have e : (recsOf (k.di ++ k.od)).length = (recsOf (k.di.take i)).length + (recsOf (k.di.drop i ++ k.od)).length := by rw [← List.length_append, ← recsOf_append, ← List.append_assoc, List.take_append_drop]
    omega
  · show k.N + (i : Int) + ((k.di.drop i ++ k.nw).length : Int) = _
    unfold KS.sheets
    rw [List.length_append, List.length_append, List.length_drop]
    omega
  · intro s1 e
    have e' : (k.di.drop i ++ k.nw)[0]? = some s1 := e
    rw [hst] at e'
    injection e' with e'
    subst e'
    show x = _
    rw [hxv, hs0n]
  · exact hls
  · refine ⟨A.drop i, B, ?_, ?_, hB⟩
    · show X.shs.drop i = _
      rw [eAB, List.drop_append_of_le_length (by omega)]
    · rw [List.map_drop, hA, List.map_drop]
/-- What Open wants of the disk. -/
structure KOpen (k : KS) (A : DA) (s0 : Sc) (place : Nat) : Prop where
  at0 : k.di[0]? = some s0
  cut : k.cut < s0.Rs.length
  plc : place = (putsL (s0.Rs.take k.cut)).length
  pl : place ≤ 496
  ok : ∀ s ∈ k.di, s.Ok ∧ s.tn < k.T
  chn : Chn k.N none k.di
  len : (k.di.length : Int) ≤ 6 - 1
  img : ∀ s ∈ k.di, A.lat (1 + s.num % 6) = s.bytes
  stop : (k.di.length : Int) = 6 - 1 ∨ ∃ oc : Option Sc, A.lat (1 + (k.N + (k.di.length : Int)) % 6) = scB oc ∧ ∀ s, oc = some s → s.Ok ∧ s.tn < k.T ∧ s.num ≤ 9007199254740000 ∧ (s.num = k.N + (k.di.length : Int) → ∃ x, lastOr none k.di = some x ∧ (s.tn < x.tn ∨ s.bef ≠ (x.len : Int)))
theorem k_open {k : KS} {A : DA} (h : KOk k) (ho : k.od = []) (hn : k.nw = []) (hD : DkIs A k.E) (htn : ∀ i s, k.E i = some s → s.tn < k.T) (hN : k.N ≤ 1000000) : ∃ s0 place, KOpen k A s0 place := by
  have hne : k.di ≠ [] := fun e => h.ne (by rw [e, hn]; rfl)
  obtain ⟨s0, t, hd⟩ := List.exists_cons_of_ne_nil hne
  have hdur := h.dur
  rw [ho, List.append_nil] at hdur
  have hat : k.di[0]? = some s0 := by rw [hd]; rfl
  have hcut := h.cut s0 (by rw [ho, List.append_nil]; exact hat)
  have hs0 := (hdur.ok s0 (List.mem_of_getElem? hat)).1
  have hn0 := hdur.n0
  refine ⟨s0, _, hat, hcut, rfl, ?_, fun s hs => ⟨(hdur.ok s hs).1, htn _ s (hdur.img s hs)⟩, hdur.chn, by have := hdur.few; omega, fun s hs => ?_, ?_⟩
  · have := hs0.len
    unfold Sc.len at this
    rw [putsL_cut s0.Rs k.cut, List.length_append] at this
    omega
  · rw [hD.lat _ (Int.emod_nonneg _ (by omega)) (Int.emod_lt_of_pos _ (by omega)), hdur.img s hs]; rfl
  · right
    refine ⟨k.E ((k.N + (k.di.length : Int)) % 6), hD.lat _ (Int.emod_nonneg _ (by omega)) (Int.emod_lt_of_pos _ (by omega)), fun s hs => ?_⟩
    have h9 := hdur.sec _ s hs
    exact ⟨h9.2.2.1, htn _ s hs, by omega, fun e => hdur.stop s hs e⟩
theorem k_reopen {k : KS} {X : LgM} {d : Nat} {oldest : Int} (h : KOk k) (ho : k.od = []) (hn : k.nw = []) (x : OpX d 1 6 k.T oldest k.cut k.di X) (hold : ∀ s0, k.di[0]? = some s0 → oldest = k.N * 512 + ((putsL (s0.Rs.take k.cut)).length : Int) + 1) : KMem k X := by
  have hsh : k.sheets = k.di := by unfold KS.sheets; rw [hn, List.append_nil]
  refine ⟨x.first, x.count, x.turn, fun s0 e => by rw [x.oldest]; exact hold s0 (by rw [← hsh]; exact e), by rw [hsh]; exact x.ls, ⟨X.shs, [], by rw [List.append_nil], ?_, by rw [hn]; rfl⟩⟩
  apply List.ext_getElem?
  intro j
  rw [List.getElem?_map, List.getElem?_map]
  cases hs : k.di[j]? with
  | none =>
    have h1 := congrArg List.length x.shs
    rw [List.length_map, List.length_map] at h1
    have : X.shs[j]? = none := by rw [List.getElem?_eq_none_iff] at hs ⊢; omega
    rw [this]; rfl
  | some s =>
    obtain ⟨mm, h1, h2⟩ := dsc_at x.shs hs
    have hp := dsc_parts h2
    rw [h1]
    show some mm.cl = some s.cl
    unfold ShM.cl Sc.cl
    rw [hp.1, hp.2.1, hp.2.2.1, hp.2.2.2.2.1, hp.2.2.2.2.2.1, hp.2.2.2.2.2.2]
theorem k_old_same {k k' : KS} (h : KOk k) (h' : KOk k') (hc : k'.cut = k.cut) (hr : ∃ r, recsOf k.sheets = recsOf k'.sheets ++ r) {s0 s1 : Sc} (e0 : k.sheets[0]? = some s0) (e1 : k'.sheets[0]? = some s1) : s0.Rs.take k.cut = s1.Rs.take k.cut := by
  have c0 := h.cut0 e0
  have c1 := h'.cut0 e1
  rw [hc] at c1
  have key : ∀ (ss : List Sc) (s : Sc) (c : Nat), ss[0]? = some s → c < s.Rs.length → (recsOf ss).take c = s.Rs.take c := fun ss s c e hlt => by
    cases ss with
    | nil => cases e
    | cons a t =>
      injection e with e
      subst e
      rw [show recsOf (a :: t) = a.Rs ++ recsOf t by simp [recsOf], List.take_append_of_le_length (Nat.le_of_lt hlt)]
  have k0 := key _ _ _ e0 c0
  have k1 := key _ _ _ e1 c1
  obtain ⟨r, hr⟩ := hr
  have hl : k.cut ≤ (recsOf k'.sheets).length := by have := h'.cutLe; rw [hc] at this; exact this
  rw [hr, List.take_append_of_le_length hl] at k0
  rw [← k0, ← k1]
theorem k_lost {T : Int} {E : Int → Option Sc} {A : DA} (h : Dur T 0 [] E) (hD : DkIs A E) : A.lat 1 = noughts := by
  have h1 := hD.lat 0 (Int.le_refl _) (by omega)
  rw [Int.add_zero] at h1
  rw [h1]
  cases he : E 0 with
  | none => rfl
  | some s =>
    exfalso
    have h2 := h.sec 0 s he
    have h3 := h2.2.2.1.num
    obtain ⟨x, hx, _⟩ := h.stop s (by simpa using he) (by simp; omega)
    cases hx
theorem DkIs.new : DkIs (DA.new 7) (fun _ => none) := ⟨rfl, fun _ _ _ => rfl, fun _ _ _ => rfl, fun _ => rfl⟩
theorem dur_new : Dur 1 0 [] (fun _ => none) := ⟨fun s hs => by simp at hs, fun s hs => by simp at hs, trivial, by simp, Int.le_refl _, (fun i s e => by cases e), fun s e => by cases e⟩
end Go.Proofs.YtfheikmjjijdpaaDoor

