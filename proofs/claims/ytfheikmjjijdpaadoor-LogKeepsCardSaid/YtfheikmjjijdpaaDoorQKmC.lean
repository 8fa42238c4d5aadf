/-
  LogKeeps' steps: Force, a crash, Open, Trim, in the words of what is kept. Conditions: at most some hundred steps.
-/
import Derived.Test.YtfheikmjjijdpaaDoorQKmB
namespace Go.Proofs.YtfheikmjjijdpaaDoor
open Go.RowKit Go.Maps Go.Proofs
set_option linter.unusedVariables false
set_option linter.unusedSimpArgs false

/-- What stands in memory, the log left out. -/
structure KN (w0 w : World) (d ms mo : Nat) (D : DA) (X : LgM) (A : Option Addr) (c : Nat) (rows : List (Rec × RecS)) : Prop where
  xd : X.d = d
  disk : IsDisk w d ms mo D
  all : OwnO w 39 11 A rows.length c (rcells rows)
  recs : ∀ r ∈ rows, KRec w X d ms mo A r
  oL : ∀ i, X.own i → w0.heap.size ≤ i
  oD : ∀ i, dskW d ms mo i → w0.heap.size ≤ i
  oA : ∀ g o, A = some ⟨g, o, none⟩ → w0.heap.size ≤ g
  dL : ∀ i, dskW d ms mo i → ¬ X.own i
  aL : ∀ g o, A = some ⟨g, o, none⟩ → ¬ X.own g
  aD : ∀ g o, A = some ⟨g, o, none⟩ → ¬ dskW d ms mo g
  turned : Turned (fun _ => False) w0 w
section
variable {w0 w w' : World} {d ms mo c : Nat} {D D' : DA} {X X' : LgM} {A : Option Addr} {rows : List (Rec × RecS)}
theorem KM.kn (h : KM w0 w d ms mo D X A c rows) : KN w0 w d ms mo D X A c rows := ⟨h.xd, h.disk, h.all, h.recs, h.oL, h.oD, h.oA, h.dL, h.aL, h.aD, h.turned⟩
theorem KN.step (h : KN w0 w d ms mo D X A c rows) (ht : Turned (ownD X ms mo) w w') (hD : IsDisk w' d ms mo D') : KN w0 w' d ms mo D' X A c rows := by
  have hW : ∀ i, ownD X ms mo i → X.own i ∨ dskW d ms mo i := fun i e => e.elim .inl (fun e => .inr (by have := h.xd; rw [this] at e; exact e))
  exact ⟨h.xd, hD, h.all.turned ht (fun g o e e2 => (hW g e2).elim (h.aL g o e) (h.aD g o e)), fun r hr => (h.recs r hr).step ht (fun i e => (hW i e).elim .inl (fun e => .inr (.inl e))) (fun i e => .inl e) (fun i o e => .inl ⟨o, e⟩), h.oL, h.oD, h.oA, h.dL, h.aL, h.aD, h.turned.trans ht (fun _ e => e) (fun i e => .inr ((hW i e).elim (h.oL i) (h.oD i)))⟩
theorem KN.fresh (h : KN w0 w d ms mo D X A c rows) (ht : Turned (fun _ => False) w w') : KN w0 w' d ms mo D X A c rows := h.step (ht.mono (fun _ e => e.elim)) (h.disk.fresh ht)
theorem KN.dsk (h : KN w0 w d ms mo D X A c rows) (ht : Turned (dskW d ms mo) w w') (hD : IsDisk w' d ms mo D') : KN w0 w' d ms mo D' X A c rows := h.step (ht.mono (fun i e => .inl (.inr (by have := h.xd; rw [this]; exact e)))) hD
theorem KN.opened (h : KN w0 w d ms mo D X A c rows) (ht : Turned (fun _ => False) w w') (hl : LogM w' X') (hd : X'.d = d) (hX : ∀ i, X'.own i → w.heap.size ≤ i) : KM w0 w' d ms mo D X' A c rows :=
  ⟨hl, hd, h.disk.fresh ht, h.all.fresh ht, fun r hr => (h.recs r hr).step ht (fun i e => e.elim) (fun i e => .inr (hX i e)) (fun i o e => .inl ⟨o, e⟩), fun i e => Nat.le_trans h.turned.size (hX i e), h.oD, h.oA, fun i hi e => by have h1 := hX i e; have h2 := h.disk.lt hi; omega, fun g o e e2 => by have h1 := hX g e2; have h2 := h.all.lt e; omega, h.aD, h.turned.trans ht (fun _ e => e) (fun _ e => e.elim)⟩
end
/-- What is found behind a crash. -/
def KNext (T : Int) (E' : Int → Option Sc) (oldest : Int) (recs : List Rec) (safe step : Nat) : Prop :=
  (∃ k, KOk k ∧ k.T = T + 1 ∧ k.E = E' ∧ k.od = [] ∧ k.nw = [] ∧ (∀ i s, E' i = some s → s.tn ≤ T) ∧ (∃ r, recs = k.all ++ r) ∧ safe ≤ k.all.length ∧ k.N + (k.sheets.length : Int) ≤ (step : Int) + 1 ∧ ∀ s0, k.di[0]? = some s0 → oldest = k.N * 512 + ((putsL (s0.Rs.take k.cut)).length : Int) + 1) ∨
  (Dur (T + 1) 0 [] E' ∧ safe = 0 ∧ oldest = 1)
theorem mix_none {kept : Int → Bool} {E : Int → Option Sc} {nw : List Sc} (h : nw = []) : mixK kept E (wrAll E nw) = E := by
  funext i
  rw [h]
  unfold mixK wrAll
  split <;> rfl
/-- From a log to what may be found of it. -/
theorem k_next {k : KS} {X : LgM} {step : Nat} (h : KOk k) (m : KMem k X) (hN : k.N + (k.sheets.length : Int) ≤ (step : Int) + 1) (kept : Int → Bool) : KNext k.T (mixK kept k.E (wrAll k.E k.nw)) X.oldest k.all k.safe step := by
  have hpos : 0 < k.sheets.length := List.length_pos_iff.2 h.ne
  obtain ⟨s0, g0⟩ : ∃ s0, k.sheets[0]? = some s0 := ⟨_, List.getElem?_eq_getElem hpos⟩
  rcases k_crash h kept with ⟨k', a1, a2, a3, a4, a5, a6, a7, a8, a9, a10, a11, a12⟩ | ⟨b1, b2, b3, b4⟩
  · refine .inl ⟨k', a1, a2, a3, a6, a7, fun i s e => a9 i s (by rw [a3]; exact e), a10, a11, by rw [a4]; omega, fun s1 e => ?_⟩
    have e1 : k'.sheets[0]? = some s1 := by unfold KS.sheets; rw [a7, List.append_nil]; exact e
    have h9 := k_old_same h a1 a5 a12 g0 e1
    rw [a4, a5, ← h9]
    exact m.oldest s0 g0
  · refine .inr ⟨b1, b2, ?_⟩
    rw [m.oldest s0 g0, b3, b4, List.take_zero]
    rfl
section
variable {w0 w : World} {d ms mo c safe step : Nat} {D : DA} {E : Int → Option Sc} {T : Int} {X : LgM} {A : Option Addr} {rows : List (Rec × RecS)}
theorem KM.dB (h : KM w0 w d ms mo D X A c rows) : ∀ i, dskW X.d ms mo i → ¬ X.own i := fun i hi => h.dL i (by have := h.xd; rw [this] at hi; exact hi)
theorem KM.dkX (h : KM w0 w d ms mo D X A c rows) : IsDisk w X.d ms mo D := by rw [h.xd]; exact h.disk
/-- Force, the disk not armed. -/
def KForce0 (w0 : World) (d ms mo c step : Nat) (T : Int) (X : LgM) (A : Option Addr) (rows : List (Rec × RecS)) (e : Ending) (w' : World) : Prop := e = .returned (.int .i64 0) ∧ ∃ X' D' E', X'.L = X.L ∧ KM w0 w' d ms mo D' X' A c rows ∧ DkIs D' E' ∧ D'.down = false ∧ D'.armed = 0 ∧ KRel T E' X' (rows.map Prod.fst) rows.length step
theorem km_force0 (h : KM w0 w d ms mo D X A c rows) (hk : KRel T E X (rows.map Prod.fst) safe step) (hD : DkIs D E) (hdn : D.down = false) (har : D.armed = 0) :
    Calls Tryd.prog 15 #[.pointer (some ⟨X.L, 0, none⟩)] w (KForce0 w0 d ms mo c step T X A rows) := by
  rcases hk with ⟨k, a, m, eT, eE, eall, esafe, eN⟩ | ⟨em, e1, e2⟩
  · have hne : X.shs ≠ [] := fun e => by have := m.len; rw [e] at this; exact a.ne (List.length_eq_zero_iff.1 this.symm)
    obtain ⟨init, mm, es⟩ := snoc_of hne
    have hrl : k.all.length = rows.length := by rw [eall, List.length_map]
    by_cases hn : k.nw = []
    · refine (mforce_all X init mm w h.log es (k_clean a m hn)).mono ?_
      rintro e w' ⟨rfl, t⟩
      exact ⟨rfl, X, D, E, rfl, h.fresh t, hD, hdn, har, .inl ⟨k, a, m, eT, eE, eall, by rw [k_all_safe a hn, hrl], eN⟩⟩
    · obtain ⟨i, q, si, vq, kd⟩ := k_dirty a m hn es
      subst eT eE
      refine (mforce_some ms mo D X init mm i q si vq w h.log es (by rw [m.ls]; exact a.sorted) kd.at_ kd.sf kd.no kd.cnt kd.v kd.ne h.dkX hdn (k_wrOk a m h.dB hD.n)).mono ?_
      rintro e w' (⟨rfl, hd⟩ | ⟨_, hd⟩)
      · obtain ⟨k', b1, b2, b3, b4, b5, b6, b7, b8⟩ := k_force a m hn
        have hown : ∀ i, X.done.own i → X.own i := fun i hi => by
          rcases hi with q | q | q | ⟨t, ht, q⟩
          · exact .inl q
          · exact .inr (.inl q)
          · exact .inr (.inr (.inl q))
          · obtain ⟨s, hs, rfl⟩ := List.mem_map.1 (show t ∈ X.shs.map (fun s => (s.wr X.turn).sf) from ht)
            refine .inr (.inr (.inr ⟨s, hs, ?_⟩))
            have e1 : ((s.wr X.turn).sf).g = s.g := ShM.wr_g s X.turn
            have e2 : ((s.wr X.turn).sf).gb = s.gb := ShM.wr_gb s X.turn
            rw [e1, e2] at q
            exact q
        have hsy : (wrD X D X.shs).sync.down = false ∧ (wrD X D X.shs).sync.armed = 0 := by
          unfold DA.sync
          rw [hd.tick]
          refine ⟨rfl, ?_⟩
          show tickA (wrD X D X.shs).armed = 0
          rw [wr_armed0 X X.shs D har]; rfl
        have hdk : IsDisk w' d ms mo (wrD X D X.shs).sync := by have h9 := hd.disk; rw [h.xd] at h9; exact h9
        exact ⟨rfl, X.done, _, _, rfl, h.step hd.turned hd.log rfl (fun i e => .inl (hown i e)) hdk, k_synced a m hD hd.tick, hsy.1, hsy.2, .inl ⟨k', b1, b8, b2, b3, by rw [b5, eall], by rw [b6, hrl], by rw [b4, b7]; exact eN⟩⟩
      · exact absurd har hd.arm
  · obtain ⟨m, es, _, _, hb, hsf, _⟩ := em.shs
    have hrl : rows.length = 0 := by have := congrArg List.length e1; simpa using this
    refine (mforce_all X [] m w h.log es (fun t ht => by rw [es] at ht; rw [List.mem_singleton.1 ht, hsf, hb]; simp)).mono ?_
    rintro e w' ⟨rfl, t⟩
    exact ⟨rfl, X, D, E, rfl, h.fresh t, hD, hdn, har, .inr ⟨em, e1, hrl⟩⟩
/-- Force, whether or not the disk crashes: and what a Wake leaves. -/
def KForce1 (w0 : World) (d ms mo c safe step : Nat) (T : Int) (X : LgM) (A : Option Addr) (rows : List (Rec × RecS)) (e : Ending) (w' : World) : Prop := ∃ code safe', e = .returned (.int .i64 code) ∧ ((code = 0 ∧ safe' = rows.length) ∨ (code = 8 ∧ safe' = safe)) ∧ ∃ D1, KN w0 w' d ms mo D1 X A c rows ∧ ∀ fs, ∃ E', DkIs (D1.wake fs) E' ∧ KNext T E' X.oldest (rows.map Prod.fst) safe' step
theorem km_force1 (h : KM w0 w d ms mo D X A c rows) (hk : KRel T E X (rows.map Prod.fst) safe step) (hD : DkIs D E) (hdn : D.down = false) :
    Calls Tryd.prog 15 #[.pointer (some ⟨X.L, 0, none⟩)] w (KForce1 w0 d ms mo c safe step T X A rows) := by
  rcases hk with ⟨k, a, m, eT, eE, eall, esafe, eN⟩ | ⟨em, e1, e2⟩
  · have hne : X.shs ≠ [] := fun e => by have := m.len; rw [e] at this; exact a.ne (List.length_eq_zero_iff.1 this.symm)
    obtain ⟨init, mm, es⟩ := snoc_of hne
    have hrl : k.all.length = rows.length := by rw [eall, List.length_map]
    subst eT eE
    by_cases hn : k.nw = []
    · refine (mforce_all X init mm w h.log es (k_clean a m hn)).mono ?_
      rintro e w' ⟨rfl, t⟩
      refine ⟨0, _, rfl, .inl ⟨rfl, rfl⟩, D, h.kn.fresh t, fun fs => ⟨k.E, hD.wake fs, ?_⟩⟩
      have h9 := k_next a m eN (fun _ => false)
      rw [mix_none hn, k_all_safe a hn, eall, List.length_map] at h9
      exact h9
    · obtain ⟨i, q, si, vq, kd⟩ := k_dirty a m hn es
      refine (mforce_some ms mo D X init mm i q si vq w h.log es (by rw [m.ls]; exact a.sorted) kd.at_ kd.sf kd.no kd.cnt kd.v kd.ne h.dkX hdn (k_wrOk a m h.dB hD.n)).mono ?_
      rintro e w' (⟨rfl, hd⟩ | ⟨rfl, hd⟩)
      · obtain ⟨k', b1, b2, b3, b4, b5, b6, b7, b8⟩ := k_force a m hn
        have hdk : IsDisk w' d ms mo (wrD X D X.shs).sync := by have h9 := hd.disk; rw [h.xd] at h9; exact h9
        refine ⟨0, _, rfl, .inl ⟨rfl, rfl⟩, _, h.kn.step hd.turned hdk, fun fs => ⟨wrAll k.E k.nw, (k_synced a m hD hd.tick).wake fs, ?_⟩⟩
        have h9 := k_next b1 b8 (by rw [b4, b7]; exact eN) (fun _ => false)
        have hn' : k'.nw = [] := by
          cases hw : k'.nw with
          | nil => rfl
          | cons s t =>
            exfalso
            have h1 := (b1.more hw).1
            have h2 := KOk.unsafe_ b1 hw
            have h3 := b6
            have h4 : k'.safe = (recsOf (k'.di ++ k'.od)).length - k'.cut := rfl
            have h5 : k'.all.length = (recsOf k'.sheets).length - k'.cut := by unfold KS.all; rw [List.length_drop]
            have h6 : (recsOf k'.sheets).length = (recsOf k'.di).length + (s.Rs.length + (recsOf t).length) := by
              unfold KS.sheets
              rw [hw, recsOf_append, List.length_append, show recsOf (s :: t) = s.Rs ++ recsOf t by simp [recsOf], List.length_append]
            have h7 : (recsOf (k'.di ++ k'.od)).length < (recsOf k'.sheets).length := by
              rw [h6, recsOf_append, List.length_append]
              cases ho : k'.od with
              | nil => have := ((b1.ok s (by rw [hw]; simp)).1).pos; simp [recsOf]; omega
              | cons o od' =>
                have ho' : od' = [] := by have := b1.odl; rw [ho] at this; cases od' with | nil => rfl | cons _ _ => simp at this
                subst ho'
                obtain ⟨s1, t1, Rx, f1, f2, f3, _⟩ := b1.ovr o ho
                rw [hw] at f1
                injection f1 with f1 _
                subst f1
                have hx : 0 < Rx.length := List.length_pos_iff.2 f3
                rw [show recsOf [o] = o.Rs by simp [recsOf], f2, List.length_append]
                omega
            have h8 := b1.cutLe
            rw [b5] at h5
            have h10 : k'.cut < (recsOf k'.sheets).length := by
              have hpos : 0 < k'.sheets.length := List.length_pos_iff.2 b1.ne
              obtain ⟨s0, g0⟩ : ∃ s0, k'.sheets[0]? = some s0 := ⟨_, List.getElem?_eq_getElem hpos⟩
              have hc := b1.cut0 g0
              cases hs : k'.sheets with
              | nil => rw [hs] at g0; cases g0
              | cons a2 t2 =>
                rw [hs] at g0
                injection g0 with g0
                subst g0
                rw [show recsOf (a2 :: t2) = a2.Rs ++ recsOf t2 by simp [recsOf], List.length_append]
                omega
            omega
        rw [mix_none hn', b2, b3, b5, eall, b6, hrl] at h9
        exact h9
      · obtain ⟨m1, A', hm, hdA, hdown, hlat, hopn, hsaf, hnn⟩ := hd.disk
        have hdk : IsDisk w' d ms mo A' := by rw [h.xd] at hdA; exact hdA
        refine ⟨8, _, rfl, .inr ⟨rfl, rfl⟩, A', h.kn.step hd.turned hdk, fun fs => ⟨_, k_wake a m hD hlat hopn hsaf hnn fs, ?_⟩⟩
        have h9 := k_next a m eN (keptBy k m1 fs)
        rw [eall, esafe] at h9
        exact h9
  · obtain ⟨m, es, _, _, hb, hsf, _⟩ := em.shs
    have hrl : rows.length = 0 := by have := congrArg List.length e1; simpa using this
    refine (mforce_all X [] m w h.log es (fun t ht => by rw [es] at ht; rw [List.mem_singleton.1 ht, hsf, hb]; simp)).mono ?_
    rintro e w' ⟨rfl, t⟩
    exact ⟨0, _, rfl, .inl ⟨rfl, rfl⟩, D, h.kn.fresh t, fun fs => ⟨E, hD.wake fs, .inr ⟨k_crash_empty em.dur em.T1, hrl, em.oldest⟩⟩⟩
/-- Open behind a crash. -/
def KOpn (w0 : World) (d ms mo c safe step : Nat) (D : DA) (T : Int) (E' : Int → Option Sc) (oldest : Int) (A : Option Addr) (rows : List (Rec × RecS)) (e : Ending) (w' : World) : Prop := ∃ X' n, e = .returned (.tuple #[.pointer (some ⟨X'.L, 0, none⟩), .int .i64 0]) ∧ KM w0 w' d ms mo D X' A c rows ∧ n ≤ rows.length ∧ safe ≤ n ∧ X'.oldest = oldest ∧ KRel (T + 1) E' X' ((rows.take n).map Prod.fst) n step
theorem km_open {E' : Int → Option Sc} {oldest : Int} (h : KN w0 w d ms mo D X A c rows) (hD : DkIs D E') (hdn : D.down = false) (hn : KNext T E' oldest (rows.map Prod.fst) safe step) (hT : 1 ≤ T ∧ T < 100000) (hs : step ≤ 1000) :
    Calls Tryd.prog 6 #[.pointer (some ⟨d, 0, none⟩), .int .i64 1, .int .i64 6, .int .i64 oldest, .int .i64 (T + 1)] w (KOpn w0 d ms mo c safe step D T E' oldest A rows) := by
  rcases hn with ⟨k, a1, a2, a3, a4, a5, a6, ⟨r, a7⟩, a8, a9, a10⟩ | ⟨b1, b2, b3⟩
  · subst a3
    have hn0 := a1.dur.n0
    obtain ⟨s0, place, ko⟩ := k_open a1 a4 a5 hD (fun i s e => by have := a6 i s e; rw [a2]; omega) (by omega)
    have hok := fun s (hs : s ∈ k.di) => ko.ok s hs
    rw [a2] at hok
    have hst := ko.stop
    rw [a2] at hst
    refine (hopen_any d ms mo D 1 6 (T + 1) oldest k.N place k.cut k.di s0 w h.disk hdn (by omega) (by omega) (by rw [hD.n]; omega) ⟨by omega, by omega⟩ (by rw [ko.plc]; exact a10 s0 ko.at0) ⟨hn0, by omega⟩ ko.pl ko.at0 ko.cut ko.plc hok ko.chn ko.len ko.img hst).mono ?_
    rintro e w' ⟨X', rfl, hx, hl, hown, ht⟩
    have hx' : OpX d 1 6 k.T oldest k.cut k.di X' := by rw [a2]; exact hx
    have hm := k_reopen a1 a4 a5 hx' a10
    have hal := congrArg List.length a7
    rw [List.length_map, List.length_append] at hal
    refine ⟨X', k.all.length, rfl, h.opened ht hl hx.d hown, by omega, a8, hx.oldest, .inl ⟨k, a1, hm, a2, rfl, ?_, k_all_safe a1 a5, a9⟩⟩
    rw [List.map_take, a7, List.take_left' rfl]
  · subst b3
    refine (lopen_zero d ms mo D 1 6 (T + 1) w h.disk hdn (by omega) (by omega) (by rw [hD.n]; omega) ⟨by omega, by omega⟩ (k_lost b1 hD)).mono ?_
    rintro e w' ⟨L, S, g, gb, cS, rfl, l, t⟩
    have hl : LogM w' ⟨L, d, 1, 6, T + 1, 1, S, 0, cS, none, 0, [], [⟨g, gb, 0, 0, T + 1, 0, 0, [], 0, true⟩]⟩ := ⟨l.blk, RowO.of_row l.shs, OwnO.of_own l.lsn, fun s hs => by rw [List.mem_singleton.1 hs]; exact l.sht, by simp, by simp, l.cB, by show 1 ≤ 10000; omega, fun s hs => by rw [List.mem_singleton.1 hs]; exact ⟨Int.le_refl _, by show (0 : Int) ≤ _; omega⟩, fun s hs => by rw [List.mem_singleton.1 hs]; exact Nat.zero_le _, Nat.zero_le _⟩
    refine ⟨_, 0, rfl, h.opened t hl rfl (fun i hi => ?_), Nat.zero_le _, by omega, rfl, .inr ⟨⟨b1, by omega, rfl, rfl, rfl, rfl, rfl, _, rfl, rfl, rfl, rfl, rfl, rfl⟩, by simp, rfl⟩⟩
    rcases hi with e | e | ⟨o, e⟩ | ⟨s, hs, e⟩
    · have h9 := l.bL; have e2 : i = L := e; show w.heap.size ≤ i; rw [e2]; exact h9
    · have h9 := l.bS; have e2 : i = S := e; show w.heap.size ≤ i; rw [e2]; exact h9
    · cases e
    · rw [List.mem_singleton.1 hs] at e
      rcases e with e | e
      · have h9 := l.bg; have e2 : i = g := e; show w.heap.size ≤ i; rw [e2]; exact h9
      · have h9 := l.bb; have e2 : i = gb := e; show w.heap.size ≤ i; rw [e2]; exact h9
/-- Trim to a record that is safe. -/
def KTrm (w0 : World) (d ms mo c safe step kk : Nat) (D : DA) (E : Int → Option Sc) (T : Int) (X : LgM) (A : Option Addr) (rows : List (Rec × RecS)) (e : Ending) (w' : World) : Prop := e = .returned (.int .i64 0) ∧ ∃ X', X'.L = X.L ∧ KM w0 w' d ms mo D X' A c rows ∧ KRel T E X' ((rows.drop kk).map Prod.fst) (safe - kk) step
theorem km_trim {kk : Nat} {x : Int} (h : KM w0 w d ms mo D X A c rows) (hk : KRel T E X (rows.map Prod.fst) safe step) (hkk : kk < safe) (hx : X.ls[kk]? = some x) (hs : step ≤ 1000) :
    Calls Tryd.prog 18 #[.pointer (some ⟨X.L, 0, none⟩), .int .i64 x] w (KTrm w0 d ms mo c safe step kk D E T X A rows) := by
  rcases hk with ⟨k, a, m, eT, eE, eall, esafe, eN⟩ | ⟨_, _, e2⟩
  · obtain ⟨i, k', kt⟩ := k_trim a m (by rw [esafe]; exact hkk) hx
    have hpos : 0 < X.ls.length := by have := (List.getElem?_eq_some_iff.1 hx).1; omega
    obtain ⟨al, ao, eA, _⟩ := h.log.lsn.some_ hpos
    have hn0 := a.dur.n0
    refine (mtrim_any X x kk i al ao w h.log (by rw [m.ls]; exact a.sorted) hx kt.cnt eA ⟨kt.x1, by have := kt.x2; omega⟩ kt.lt kt.drop kt.stop).mono ?_
    rintro e w' ⟨rfl, hl, hso⟩
    refine ⟨rfl, trimX X kk i x al ao, rfl, h.own hso hl rfl, .inl ⟨k', kt.ok, kt.mem al ao, kt.T.trans eT, kt.E.trans eE, ?_, by rw [kt.safe, esafe], by rw [kt.num]; exact eN⟩⟩
    rw [kt.all, eall, List.map_drop]
  · omega
end
end Go.Proofs.YtfheikmjjijdpaaDoor

