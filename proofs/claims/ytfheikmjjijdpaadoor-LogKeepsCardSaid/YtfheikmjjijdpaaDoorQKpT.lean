/-
  LogKeeps' log: a sheet more, the first record, Force, a crash and what is found again, Trim: plain. No program in sight.
-/
import Derived.Test.YtfheikmjjijdpaaDoorQKpS
namespace Go.Proofs.YtfheikmjjijdpaaDoor
open Go.RowKit Go.Maps
set_option linter.unusedVariables false
set_option linter.unusedSimpArgs false

theorem KOk.lastS {k : KS} {X : LgM} (h : KOk k) (m : KMem k X) {init : List ShM} {mm : ShM} (es : X.shs = init ++ [mm]) : ∃ i s, k.sheets = i ++ [s] ∧ init.length = i.length ∧ mm.num = s.num ∧ mm.body = putsL s.Rs := by
  obtain ⟨i, s, hs⟩ := snoc_of (show k.sheets ≠ [] from h.ne)
  have hl := m.len
  rw [es, hs, List.length_append, List.length_append] at hl
  simp at hl
  obtain ⟨m2, h1, h2, h3⟩ := m.at_ (i := i.length) (s := s) (by rw [hs]; simp)
  rw [es, ← hl] at h1
  simp at h1
  subst h1
  exact ⟨i, s, hs, hl, h2, h3⟩
section
variable {k : KS} {X : LgM} {init : List ShM} {mm : ShM} {R : Rec} {gb' c' g' S' So' cS' : Nat} {Al' : Option Addr} {cl' : Nat}
theorem k_app_new (h : KOk k) (m : KMem k X) (es : X.shs = init ++ [mm]) (hr : rightR R = true) (hk : R.Ok) (hl : (putR R).length ≤ 496) (h5 : X.shs.length < 5) :
    ∃ k', KOk k' ∧ KStep k k' R ∧ k'.sheets.length = k.sheets.length + 1 ∧ KMem k' { X with S := S', So := So', cS := cS', shs := X.shs ++ [⟨g', gb', c', mm.num + 1, 0, mm.body.length, 0, putR R, 0, false⟩], Al := Al', cl := cl', ls := X.ls ++ [(mm.num + 1) * 512 + 1] } := by
  obtain ⟨A, B, eAB, hA, hB⟩ := m.shs
  obtain ⟨i, s, hs, hil, hmn, hmb⟩ := h.lastS m es
  have hcl := h.cutLe
  have hsO := h.okA s (by rw [hs]; simp)
  have hlast : lastOr none k.sheets = some s := by rw [hs, lastOr_snoc]
  have hnum : s.num = k.N + (i.length : Int) := by have := h.chnA; rw [hs] at this; exact this.right.1
  have htn : s.tn ≤ k.T := by
    have : s ∈ k.di ++ k.nw := by show s ∈ k.sheets; rw [hs]; simp
    rcases List.mem_append.1 this with q | q
    · exact (h.dur.ok s (List.mem_append_left _ q)).2
    · rw [(h.ok s q).2]; exact Int.le_refl _
  have hlen := m.len
  have hnO : Sc.Ok ⟨s.num + 1, k.T, (s.len : Int), [R]⟩ := Sc.Ok.one (by have := hsO.num; omega) h.T1 (by have := hsO.len; omega) hr hk hl
  have hsh' : ({ k with nw := k.nw ++ [⟨s.num + 1, k.T, (s.len : Int), [R]⟩] } : KS).sheets = k.sheets ++ [⟨s.num + 1, k.T, (s.len : Int), [R]⟩] := by unfold KS.sheets; rw [List.append_assoc]
  have hlo : k.nw = [] → k.lost = false := fun hn => by
    cases hl : k.lost with
    | false => rfl
    | true =>
      have h9 := h.lost hl
      have : k.di = [] := (List.append_eq_nil_iff.1 h9).1
      exact absurd (show k.di ++ k.nw = [] by rw [this, hn]; rfl) h.ne
  refine ⟨{ k with nw := k.nw ++ [⟨s.num + 1, k.T, (s.len : Int), [R]⟩] }, ⟨h.dur, h.T1, ?_, fun q hq => ?_, ?_, h.odl, ?_, h.cut, h.lost, h.none_, by simp⟩, ⟨rfl, rfl, rfl, ?_, rfl⟩, ?_, ⟨m.first, m.count, m.turn, ?_, ?_, ?_⟩⟩
  · refine h.chn.snoc ?_ (fun x hx => ?_)
    · show s.num + 1 = _
      have h9 := congrArg List.length hs
      unfold KS.sheets at h9
      rw [List.length_append, List.length_append] at h9
      simp at h9
      omega
    · rw [← lastOr_append] at hx
      have h9 : lastOr none k.sheets = some x := hx
      rw [hlast] at h9
      injection h9 with h9
      subst h9
      exact ⟨htn, rfl⟩
  · rcases List.mem_append.1 hq with hq | hq
    · exact h.ok q hq
    · rw [List.mem_singleton.1 hq]; exact ⟨hnO, rfl⟩
  · show (k.di ++ (k.nw ++ [_])).length ≤ 5
    rw [hlen] at h5
    unfold KS.sheets at h5
    rw [← List.append_assoc, List.length_append]
    simp at h5 ⊢
    omega
  · intro o e
    obtain ⟨s1, t1, Rx, f1, f2⟩ := h.ovr o e
    exact ⟨s1, t1 ++ [⟨s.num + 1, k.T, (s.len : Int), [R]⟩], Rx, by show k.nw ++ _ = _; rw [f1]; rfl, f2⟩
  · show (recsOf _).drop k.cut = (recsOf k.sheets).drop k.cut ++ [R]
    rw [hsh', recsOf_snoc, List.drop_append_of_le_length hcl]
  · rw [hsh', List.length_append]; rfl
  · intro s0 e
    rw [hsh'] at e
    have h9 : k.sheets[0]? = some s0 := by
      rw [List.getElem?_append_left (show 0 < k.sheets.length from List.length_pos_iff.2 h.ne)] at e
      exact e
    exact m.oldest s0 h9
  · show X.ls ++ [_] = (lsAll _).drop k.cut
    rw [hsh', lsAll_snoc, List.drop_append_of_le_length (by rw [lsAll_recs]; exact hcl), m.ls, hmn]
    simp [lsnsL]
  · refine ⟨A, B ++ [⟨g', gb', c', mm.num + 1, 0, mm.body.length, 0, putR R, 0, false⟩], by rw [eAB, List.append_assoc], hA, ?_⟩
    show _ = nwL (odLen k.od) k.lost (k.nw ++ [_])
    have hnew : ShM.nwD ⟨g', gb', c', mm.num + 1, 0, mm.body.length, 0, putR R, 0, false⟩ = Sc.nwD ⟨s.num + 1, k.T, (s.len : Int), [R]⟩ 0 false := by
      unfold ShM.nwD Sc.nwD Sc.len
      rw [hmn, hmb, putsL_one]
    rw [List.map_append, List.map_cons, List.map_nil, hnew, hB]
    by_cases hn : k.nw = []
    · rw [hn, od_nil h hn, hlo hn]; rfl
    · rw [nwL_snoc _ _ _ _ hn]
end
/-- A log that has nothing, and of which nothing is on the disk. -/
structure KEmp (T : Int) (E : Int → Option Sc) (X : LgM) : Prop where
  dur : Dur T 0 [] E
  T1 : 1 ≤ T
  first : X.first = 1
  count : X.count = 6
  turn : X.turn = T
  oldest : X.oldest = 1
  ls : X.ls = []
  shs : ∃ m, X.shs = [m] ∧ m.num = 0 ∧ m.bef = 0 ∧ m.body = [] ∧ m.safe = 0 ∧ m.lost = true
theorem k_app_empty {T : Int} {E : Int → Option Sc} {X : LgM} {init : List ShM} {mm : ShM} {R : Rec} {gb' c' : Nat} {Al' : Option Addr} {cl' : Nat} (h : KEmp T E X) (es : X.shs = init ++ [mm]) (hr : rightR R = true) (hk : R.Ok) (hl : (putR R).length ≤ 496) :
    ∃ k', KOk k' ∧ k'.T = T ∧ k'.E = E ∧ k'.N = 0 ∧ k'.all = [R] ∧ k'.safe = 0 ∧ k'.sheets.length = 1 ∧ KMem k' { X with shs := init ++ [{ mm with gb := gb', c := c', body := mm.body ++ putR R }], Al := Al', cl := cl', ls := X.ls ++ [mm.num * 512 + (mm.body.length : Int) + 1] } := by
  obtain ⟨m, e, h1, h2, h3, h4, h5⟩ := h.shs
  have e2 := List.append_inj' (show init ++ [mm] = [] ++ [m] by rw [← es, e]; rfl) rfl
  have e3 : mm = m := by simpa using e2.2
  subst e3
  obtain ⟨rfl, _⟩ := e2
  have hO : Sc.Ok ⟨0, T, 0, [R]⟩ := Sc.Ok.one (Int.le_refl _) h.T1 ⟨Int.le_refl _, by omega⟩ hr hk hl
  refine ⟨⟨0, T, 0, [], [], [⟨0, T, 0, [R]⟩], true, E⟩, ⟨h.dur, h.T1, ⟨by simp, (fun x hx => by cases hx), trivial⟩, fun s hs => by rw [List.mem_singleton.1 hs]; exact ⟨hO, rfl⟩, by simp, by simp, (fun o e => by cases e), (fun s0 e => by cases e), fun _ => rfl, fun _ => ⟨rfl, rfl, rfl⟩, by simp⟩, rfl, rfl, rfl, by simp [KS.all, KS.sheets, recsOf], by simp [KS.safe, recsOf], rfl, ⟨h.first, h.count, h.turn, ?_, ?_, ?_⟩⟩
  · intro s0 e
    injection e with e
    subst e
    show X.oldest = _
    rw [h.oldest]; rfl
  · show X.ls ++ [_] = _
    rw [h.ls, h1, h3]; rfl
  · refine ⟨[], [{ mm with gb := gb', c := c', body := mm.body ++ putR R }], rfl, rfl, ?_⟩
    simp only [List.map_cons, List.map_nil, nwL, odLen]
    unfold ShM.nwD Sc.nwD
    rw [h1, h2, h3, h4, h5, List.nil_append, putsL_one]
/-- Nothing is to be written: all is safe. -/
theorem k_all_safe {k : KS} (h : KOk k) (e : k.nw = []) : k.safe = k.all.length := by
  unfold KS.safe KS.all KS.sheets
  rw [od_nil h e, e, List.length_drop]
/-- Force, without a crash. -/
theorem k_force {k : KS} {X : LgM} (h : KOk k) (m : KMem k X) (hn : k.nw ≠ []) :
    ∃ k', KOk k' ∧ k'.T = k.T ∧ k'.E = wrAll k.E k.nw ∧ k'.N = k.N ∧ k'.all = k.all ∧ k'.safe = k.all.length ∧ k'.sheets = k.sheets ∧ KMem k' X.done := by
  obtain ⟨A, B, eAB, hA, hB⟩ := m.shs
  have hod : k.od.length ≤ k.nw.length := by have := h.odl; have := List.length_pos_iff.2 hn; omega
  have hdur := dur_all h.dur hod h.chn h.ok (by have := h.few; rw [List.length_append] at this; exact this) hn
  have hsh : ({ k with di := k.di ++ k.nw, od := [], nw := [], lost := false, E := wrAll k.E k.nw } : KS).sheets = k.sheets := by unfold KS.sheets; rw [List.append_nil]
  have hclean : ∀ mc ∈ A, ∃ s ∈ k.di, mc.cl = s.cl := fun mc hm => by
    have h9 : mc.cl ∈ k.di.map Sc.cl := by rw [← hA]; exact List.mem_map_of_mem hm
    obtain ⟨s, hs, e⟩ := List.mem_map.1 h9
    exact ⟨s, hs, e.symm⟩
  refine ⟨{ k with di := k.di ++ k.nw, od := [], nw := [], lost := false, E := wrAll k.E k.nw }, ⟨by rw [List.append_nil]; exact hdur, h.T1, trivial, by simp, by rw [List.append_nil]; exact h.few, by simp, (fun o e => by cases e), fun s0 e => ?_, (fun e => by cases e), fun e => ?_, by simp [hn]⟩, rfl, rfl, rfl, ?_, ?_, hsh, ⟨m.first, m.count, m.turn, ?_, ?_, ?_⟩⟩
  · rw [List.append_nil] at e
    exact h.cut0 e
  · rw [List.append_nil] at e
    exact absurd e h.ne
  · unfold KS.all; rw [hsh]
  · unfold KS.safe KS.all KS.sheets; simp
  · intro s0 e; rw [hsh] at e; exact m.oldest s0 e
  · rw [hsh]; exact m.ls
  · refine ⟨A.map (fun s => (s.wr X.turn).sf) ++ B.map (fun s => (s.wr X.turn).sf), [], by unfold LgM.done; rw [eAB, List.map_append, List.append_nil], ?_, rfl⟩
    rw [List.map_append, List.map_append]
    congr 1
    · rw [List.map_map, ← hA]
      refine List.map_congr_left (fun mc hm => ?_)
      obtain ⟨s, hs, e⟩ := hclean mc hm
      have hp := cl_parts e
      have hb : mc.safe = (mc.body.length : Int) := by rw [hp.2.2.2.2.1, hp.2.2.2.1]; rfl
      show ((mc.wr X.turn).sf).cl = mc.cl
      unfold ShM.wr
      rw [if_pos hb]
      unfold ShM.sf ShM.cl
      simp only
      rw [← hb, hp.2.2.2.2.2]
    · rw [List.map_map]
      apply List.ext_getElem?
      intro j
      rw [List.getElem?_map, List.getElem?_map]
      have h1 := congrArg List.length hB
      rw [List.length_map, nwL_length] at h1
      cases hs : k.nw[j]? with
      | none =>
        have : B[j]? = none := by rw [List.getElem?_eq_none_iff] at hs ⊢; omega
        rw [this]; rfl
      | some s =>
        obtain ⟨sf, lo, h2, h3, h4⟩ := nwL_at (sf := odLen k.od) (lo := k.lost) hs
        have h5 := congrArg (·[j]?) hB
        simp only [List.getElem?_map, h2] at h5
        cases hx : B[j]? with
        | none => rw [hx] at h5; cases h5
        | some mb =>
          rw [hx] at h5
          injection h5 with h5
          have hp := nw_parts h5
          have hsO := h.ok s (List.mem_of_getElem? hs)
          have hsf : sf < (s.len : Int) := by
            cases j with
            | zero =>
              rw [(h4 rfl).1]
              cases hw : k.nw with
              | nil => exact absurd hw hn
              | cons a t => rw [hw] at hs; injection hs with hs; subst hs; exact (h.more hw).1
            | succ j => rw [(h3 (by omega)).1]; have := hsO.1.pos; omega
          have hb : mb.safe ≠ (mb.body.length : Int) := by
            rw [hp.2.2.2.1, hp.2.2.1]
            unfold Sc.len at hsf
            omega
          show some (((mb.wr X.turn).sf).cl) = some s.cl
          unfold ShM.wr
          rw [if_neg hb]
          unfold ShM.sf ShM.cl Sc.cl Sc.len
          simp only
          rw [hp.1, hp.2.1, hp.2.2.1, m.turn, hsO.2]
theorem stay_sub (kept : Int → Bool) (l : List Sc) : ∃ r, l = stay kept l ++ r := by obtain ⟨r, h, _⟩ := stay_pre kept l; exact ⟨r, h⟩
/-- A crash: what is found again. -/
theorem k_crash {k : KS} (h : KOk k) (kept : Int → Bool) :
    (∃ k', KOk k' ∧ k'.T = k.T + 1 ∧ k'.E = mixK kept k.E (wrAll k.E k.nw) ∧ k'.N = k.N ∧ k'.cut = k.cut ∧ k'.od = [] ∧ k'.nw = [] ∧ k'.sheets.length ≤ k.sheets.length ∧ (∀ i s, k'.E i = some s → s.tn ≤ k.T) ∧ (∃ r, k.all = k'.all ++ r) ∧ k.safe ≤ k'.all.length ∧ ∃ r, recsOf k.sheets = recsOf k'.sheets ++ r) ∨
    (Dur (k.T + 1) 0 [] (mixK kept k.E (wrAll k.E k.nw)) ∧ k.safe = 0 ∧ k.N = 0 ∧ k.cut = 0) := by
  have hfew := h.few
  rw [List.length_append] at hfew
  have hover : ∀ o, k.od = [o] → ∃ s t, k.nw = s :: t ∧ o.len < s.len := fun o e => by
    obtain ⟨s, t, Rx, e1, _⟩ := h.ovr o e
    have := (h.more e1).1
    rw [e] at this
    exact ⟨s, t, e1, by show o.len < s.len; have h9 : (o.len : Int) < (s.len : Int) := this; omega⟩
  obtain ⟨ds, hds, hdur, htn⟩ := dur_next kept h.dur h.odl h.T1 h.chn h.ok hfew hover
  by_cases he : ds = []
  · right
    have hd0 : k.di ++ k.od = [] := by
      by_cases hs : stay kept k.nw = []
      · rw [if_pos hs] at hds; rw [← hds]; exact he
      · rw [if_neg hs] at hds
        rw [he] at hds
        exact absurd (List.append_eq_nil_iff.1 hds.symm).2 hs
    have hn := h.none_ hd0
    rw [he, hn.1] at hdur
    refine ⟨hdur, ?_, hn.1, hn.2.1⟩
    unfold KS.safe
    rw [hd0]; simp [recsOf]
  · left
    -- what is found begins what there was
    have hpre : (∃ r, recsOf k.sheets = recsOf ds ++ r) ∧ (recsOf (k.di ++ k.od)).length ≤ (recsOf ds).length ∧ ds.length ≤ k.sheets.length ∧ ∀ s0, ds[0]? = some s0 → k.cut < s0.Rs.length := by
      by_cases hs : stay kept k.nw = []
      · rw [if_pos hs] at hds
        subst hds
        refine ⟨?_, Nat.le_refl _, ?_, h.cut⟩
        · cases ho : k.od with
          | nil => exact ⟨recsOf k.nw, by unfold KS.sheets; rw [List.append_nil, recsOf_append]⟩
          | cons o od' =>
            have ho' : od' = [] := by have := h.odl; rw [ho] at this; cases od' with | nil => rfl | cons _ _ => simp at this
            subst ho'
            obtain ⟨s, t, Rx, e1, e2, _⟩ := h.ovr o ho
            refine ⟨Rx ++ recsOf t, ?_⟩
            unfold KS.sheets
            rw [e1, recsOf_append, recsOf_append, show recsOf (s :: t) = s.Rs ++ recsOf t by simp [recsOf], e2, show recsOf [o] = o.Rs by simp [recsOf]]
            simp only [List.append_assoc]
        · unfold KS.sheets
          rw [List.length_append, List.length_append]
          cases ho : k.od with
          | nil => simp
          | cons o od' =>
            have ho' : od' = [] := by have := h.odl; rw [ho] at this; cases od' with | nil => rfl | cons _ _ => simp at this
            subst ho'
            obtain ⟨s, t, Rx, e1, _⟩ := h.ovr o ho
            rw [e1]; simp
      · rw [if_neg hs] at hds
        subst hds
        obtain ⟨r, hr⟩ := stay_sub kept k.nw
        have hsh : k.sheets = (k.di ++ stay kept k.nw) ++ r := by unfold KS.sheets; rw [List.append_assoc, ← hr]
        refine ⟨⟨recsOf r, by rw [hsh, recsOf_append]⟩, ?_, by rw [hsh]; exact Nat.le_trans (Nat.le_add_right _ r.length) (Nat.le_of_eq (by simp only [List.length_append])), fun s0 e => ?_⟩
        · rw [recsOf_append, recsOf_append, List.length_append, List.length_append]
          cases ho : k.od with
          | nil => simp [recsOf]
          | cons o od' =>
            have ho' : od' = [] := by have := h.odl; rw [ho] at this; cases od' with | nil => rfl | cons _ _ => simp at this
            subst ho'
            obtain ⟨s, t, Rx, e1, e2, _⟩ := h.ovr o ho
            cases hst : stay kept k.nw with
            | nil => exact absurd hst hs
            | cons a st' =>
              rw [hst, e1] at hr
              injection hr with hr _
              subst hr
              rw [show recsOf [o] = o.Rs by simp [recsOf], show recsOf (s :: st') = s.Rs ++ recsOf st' by simp [recsOf], e2]
              simp only [List.length_append]
              omega
        · refine h.cut0 ?_
          rw [hsh]
          have h9 := (List.getElem?_eq_some_iff.1 e).1
          rw [List.getElem?_append_left h9]
          exact e
    obtain ⟨⟨r, hr⟩, hsafe, hlen, hcut⟩ := hpre
    have hcl : k.cut ≤ (recsOf ds).length := by
      obtain ⟨a, d, e⟩ := List.exists_cons_of_ne_nil he
      have := hcut a (by rw [e]; rfl)
      rw [e, show recsOf (a :: d) = a.Rs ++ recsOf d by simp [recsOf], List.length_append]
      omega
    refine ⟨⟨k.N, k.T + 1, k.cut, ds, [], [], false, mixK kept k.E (wrAll k.E k.nw)⟩, ⟨by rw [List.append_nil]; exact hdur, by show 1 ≤ k.T + 1; have := h.T1; omega, trivial, by simp, by rw [List.append_nil]; exact hdur.few, by simp, (fun o e => by cases e), fun s0 e => hcut s0 (by rw [List.append_nil] at e; exact e), (fun e => by cases e), fun e => absurd (by rw [List.append_nil] at e; exact e) he, by rw [List.append_nil]; exact he⟩, rfl, rfl, rfl, rfl, rfl, rfl, by show (ds ++ []).length ≤ _; rw [List.append_nil]; exact hlen, htn, ⟨r, ?_⟩, ?_, ⟨r, by show recsOf k.sheets = recsOf (ds ++ []) ++ r; rw [List.append_nil]; exact hr⟩⟩
    · show (recsOf k.sheets).drop k.cut = (recsOf (ds ++ [])).drop k.cut ++ r
      rw [List.append_nil, hr, List.drop_append_of_le_length hcl]
    · show (recsOf (k.di ++ k.od)).length - k.cut ≤ ((recsOf (ds ++ [])).drop k.cut).length
      rw [List.append_nil, List.length_drop]
      omega
theorem k_crash_empty {T : Int} {E : Int → Option Sc} (h : Dur T 0 [] E) (hT : 1 ≤ T) : Dur (T + 1) 0 [] E := by
  obtain ⟨ds, hds, hd, _⟩ := dur_next (di := []) (od := []) (nw := []) (fun _ => false) h (by simp) hT trivial (by simp) (by simp) (fun o e => by cases e)
  have e1 : ds = [] := by rw [hds]; simp [stay]
  rw [e1] at hd
  exact hd
end Go.Proofs.YtfheikmjjijdpaaDoor

