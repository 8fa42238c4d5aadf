/-
  LogKeeps' log: what Force wants of it, the disk behind its writes and behind a crash, Trim: plain. No program in sight.
-/
import Derived.Test.YtfheikmjjijdpaaDoorQKpT
namespace Go.Proofs.YtfheikmjjijdpaaDoor
open Go.RowKit Go.Maps
set_option linter.unusedVariables false
set_option linter.unusedSimpArgs false

theorem KMem.cases {k : KS} {X : LgM} (h : KOk k) (m : KMem k X) : ∃ A B, X.shs = A ++ B ∧ A.length = k.di.length ∧ B.length = k.nw.length ∧ (∀ (j : Nat) (mc : ShM), A[j]? = some mc → ∃ s, k.di[j]? = some s ∧ mc.num = s.num ∧ mc.body = putsL s.Rs ∧ mc.safe = (mc.body.length : Int) ∧ mc.lost = false ∧ s.Ok) ∧
    (∀ (j : Nat) (mb : ShM), B[j]? = some mb → ∃ s, k.nw[j]? = some s ∧ mb.num = s.num ∧ mb.bef = s.bef ∧ mb.body = putsL s.Rs ∧ 0 ≤ mb.safe ∧ mb.safe < (mb.body.length : Int) ∧ (j = 0 → mb.safe = odLen k.od) ∧ s.Ok ∧ s.tn = k.T) := by
  obtain ⟨A, B, e, hA, hB⟩ := m.shs
  have h1 := congrArg List.length hA
  have h2 := congrArg List.length hB
  rw [List.length_map, List.length_map] at h1
  rw [List.length_map, nwL_length] at h2
  refine ⟨A, B, e, h1, h2, fun j mc hj => ?_, fun j mb hj => ?_⟩
  · obtain ⟨s, hs, e2⟩ := map_at hA.symm hj
    have hp := cl_parts e2.symm
    have hO := (h.dur.ok s (List.mem_append_left _ (List.mem_of_getElem? hs))).1
    exact ⟨s, hs, hp.1, hp.2.2.2.1, by rw [hp.2.2.2.2.1, hp.2.2.2.1]; rfl, hp.2.2.2.2.2, hO⟩
  · have hjl := (List.getElem?_eq_some_iff.1 hj).1
    obtain ⟨s, hs⟩ : ∃ s, k.nw[j]? = some s := ⟨_, List.getElem?_eq_getElem (by omega)⟩
    obtain ⟨sf, lo, h3, h4, h5⟩ := nwL_at (sf := odLen k.od) (lo := k.lost) hs
    have h6 := congrArg (·[j]?) hB
    simp only [List.getElem?_map, h3, hj, Option.map_some] at h6
    injection h6 with h6
    have hp := nw_parts h6
    have hsO := h.ok s (List.mem_of_getElem? hs)
    have hsf : 0 ≤ sf ∧ sf < (s.len : Int) := by
      cases j with
      | zero =>
        rw [(h5 rfl).1]
        cases hw : k.nw with
        | nil => rw [hw] at hs; cases hs
        | cons a t => rw [hw] at hs; injection hs with hs; subst hs; exact ⟨(h.more hw).2, (h.more hw).1⟩
      | succ j => rw [(h4 (by omega)).1]; have := hsO.1.pos; omega
    refine ⟨s, hs, hp.1, hp.2.1, hp.2.2.1, by rw [hp.2.2.2.1]; exact hsf.1, ?_, fun e0 => by rw [hp.2.2.2.1, (h5 e0).1], hsO.1, hsO.2⟩
    rw [hp.2.2.2.1, hp.2.2.1]
    exact hsf.2
theorem k_clean {k : KS} {X : LgM} (h : KOk k) (m : KMem k X) (hn : k.nw = []) : ∀ t ∈ X.shs, ¬ t.safe < (t.body.length : Int) := by
  obtain ⟨A, B, e, h1, h2, hA, _⟩ := m.cases h
  rw [hn] at h2
  have hB0 : B = [] := List.length_eq_zero_iff.1 h2
  intro t ht
  rw [e, hB0, List.append_nil] at ht
  obtain ⟨j, hj, e2⟩ := List.getElem_of_mem ht
  obtain ⟨s, _, _, _, h5, _⟩ := hA j t (by rw [List.getElem?_eq_getElem hj, e2])
  omega
structure KDirty (X : LgM) (mm : ShM) (i q : Nat) (si : ShM) (vq : Int) : Prop where
  at_ : X.shs[i]? = some si
  sf : 0 ≤ si.safe ∧ si.safe < (si.body.length : Int)
  no : ∀ (j : Nat) (t : ShM), j < i → X.shs[j]? = some t → ¬ t.safe < (t.body.length : Int)
  cnt : X.ls.countP (· < si.num * 512 + si.safe + 1) = q
  v : X.ls[q]? = some vq
  ne : vq ≠ mm.num * 512 + (mm.body.length : Int) + 1
theorem count_lt {l : List Int} {x : Int} (h : x ∈ l) : l.countP (· < x) < l.length := by
  induction l with
  | nil => cases h
  | cons a t ih =>
    rcases List.mem_cons.1 h with rfl | h
    · rw [List.countP_cons_of_neg (by simp)]
      have := List.countP_le_length (p := (· < x)) (l := t)
      simp only [List.length_cons]
      omega
    · have h1 := ih h
      rw [List.countP_cons]
      simp only [List.length_cons]
      split <;> omega
theorem k_dirty {k : KS} {X : LgM} (h : KOk k) (m : KMem k X) (hn : k.nw ≠ []) {init : List ShM} {mm : ShM} (es : X.shs = init ++ [mm]) : ∃ i q si vq, KDirty X mm i q si vq := by
  obtain ⟨A, B, e, h1, h2, hA, hB⟩ := m.cases h
  obtain ⟨s, t, hw⟩ := List.exists_cons_of_ne_nil hn
  have hBl : 0 < B.length := by rw [h2, hw]; simp
  obtain ⟨si, hsi⟩ : ∃ si, B[0]? = some si := ⟨_, List.getElem?_eq_getElem hBl⟩
  obtain ⟨s', e1, e2, e3, e4, e5, e6, e7, _⟩ := hB 0 si hsi
  have e8 : s' = s := by rw [hw] at e1; injection e1 with e1; exact e1.symm
  subst e8
  have hmem := h.unsafe_ hw
  rw [← m.ls] at hmem
  have hx : si.num * 512 + si.safe + 1 = s'.num * 512 + odLen k.od + 1 := by rw [e2, e7 rfl]
  have hq := count_lt (show si.num * 512 + si.safe + 1 ∈ X.ls by rw [hx]; exact hmem)
  obtain ⟨i, sl, f1, f2, f3, f4⟩ := h.lastS m es
  refine ⟨A.length, _, si, _, ⟨by rw [e, List.getElem?_append_right (Nat.le_refl _), Nat.sub_self]; exact hsi, ⟨e5, e6⟩, fun j t hj ht => ?_, rfl, List.getElem?_eq_getElem hq, ?_⟩⟩
  · rw [e, List.getElem?_append_left hj] at ht
    obtain ⟨s2, _, _, _, h5, _⟩ := hA j t ht
    omega
  · have hv : X.ls[X.ls.countP (· < si.num * 512 + si.safe + 1)] ∈ X.ls := List.getElem_mem _
    have hv2 : X.ls[X.ls.countP (· < si.num * 512 + si.safe + 1)] ∈ lsAll k.sheets := by
      generalize X.ls[X.ls.countP (· < si.num * 512 + si.safe + 1)] = vv at hv ⊢
      rw [m.ls] at hv
      exact List.mem_of_mem_drop hv
    have := ls_lt k.sheets k.N none h.chnA h.okA sl (by rw [f1, lastOr_snoc]) h.ne _ hv2
    rw [f3, f4]
    unfold Sc.len at this
    omega
theorem k_wrOk {k : KS} {X : LgM} (h : KOk k) (m : KMem k X) {ms mo : Nat} {A : DA} (hd : ∀ i, dskW X.d ms mo i → ¬ X.own i) (hn : A.n = 7) : WrOk X ms mo A := by
  obtain ⟨LA, B, e, h1, h2, hA, hB⟩ := m.cases h
  have hat : ∀ s ∈ X.shs, (∃ j, LA[j]? = some s) ∨ ∃ j, B[j]? = some s := fun s hs => by
    rw [e] at hs
    rcases List.mem_append.1 hs with hs | hs
    · obtain ⟨j, hj, e2⟩ := List.getElem_of_mem hs
      exact .inl ⟨j, by rw [List.getElem?_eq_getElem hj, e2]⟩
    · obtain ⟨j, hj, e2⟩ := List.getElem_of_mem hs
      exact .inr ⟨j, by rw [List.getElem?_eq_getElem hj, e2]⟩
  refine ⟨hd, fun s hs hne => ?_, fun s hs he => ?_, fun s hs => ?_, by rw [m.first]; omega, by rw [m.first, m.count, hn]; omega⟩
  · rcases hat s hs with ⟨j, hj⟩ | ⟨j, hj⟩
    · obtain ⟨_, _, _, _, h5, _⟩ := hA j s hj
      exact absurd h5 hne
    · obtain ⟨_, _, _, _, _, h5, h6, _⟩ := hB j s hj
      omega
  · rcases hat s hs with ⟨j, hj⟩ | ⟨j, hj⟩
    · obtain ⟨_, _, _, _, _, h6, _⟩ := hA j s hj
      exact h6
    · obtain ⟨_, _, _, _, _, h5, h6, _⟩ := hB j s hj
      omega
  · rcases hat s hs with ⟨j, hj⟩ | ⟨j, hj⟩
    · obtain ⟨q, _, _, h4, _, _, h7⟩ := hA j s hj
      rw [h4]; exact h7.all.bytes
    · obtain ⟨q, _, _, _, h4, _, _, _, h7, _⟩ := hB j s hj
      rw [h4]; exact h7.all.bytes
/-- The disk as it is kept. -/
structure DkIs (A : DA) (E : Int → Option Sc) : Prop where
  n : A.n = 7
  lat : ∀ i, 0 ≤ i → i < 6 → A.lat (1 + i) = scB (E i)
  saf : ∀ i, 0 ≤ i → i < 6 → A.saf (1 + i) = scB (E i)
  opn : ∀ i, A.opn i = false
/-- Its sectors behind writes. -/
theorem wr_disk (X : LgM) (hf : X.first = 1) (hc : X.count = 6) : ∀ (B : List ShM) (nw : List Sc), B.length = nw.length → (∀ (j : Nat) (mb : ShM), B[j]? = some mb → ∃ s, nw[j]? = some s ∧ mb.num = s.num ∧ mb.bef = s.bef ∧ mb.body = putsL s.Rs ∧ mb.safe ≠ (mb.body.length : Int) ∧ s.tn = X.turn) → ∀ (A : DA) (E : Int → Option Sc), (∀ i, 0 ≤ i → i < 6 → A.lat (1 + i) = scB (E i)) →
    (∀ i, 0 ≤ i → i < 6 → (wrD X A B).lat (1 + i) = scB (wrAll E nw i)) ∧ ∀ i, 0 ≤ i → i < 6 → (wrD X A B).opn (1 + i) = (A.opn (1 + i) || nw.any fun s => s.num % 6 == i)
  | [], nw, hl, _, A, E, h => by
    have e : nw = [] := List.length_eq_zero_iff.1 hl.symm
    subst e
    exact ⟨h, fun i _ _ => by show A.opn (1 + i) = (A.opn (1 + i) || false); rw [Bool.or_false]⟩
  | m :: B, [], hl, _, _, _, _ => by cases hl
  | m :: B, s :: nw, hl, hr, A, E, h => by
    obtain ⟨s2, e1, e2, e3, e4, e5, e6⟩ := hr 0 m rfl
    injection e1 with e1
    subst e1
    have hb : shtL m.num X.turn m.bef m.body = s.bytes := by unfold Sc.bytes; rw [e2, e3, e4, e6]
    have h2 : ∀ i, 0 ≤ i → i < 6 → (A.write (1 + m.num % 6) (shtL m.num X.turn m.bef m.body)).lat (1 + i) = scB (updS E (s.num % 6) s i) := fun i hi0 hi1 => by
      show upd A.lat (1 + m.num % 6) _ (1 + i) = _
      unfold upd updS
      rw [e2]
      by_cases he : i = s.num % 6
      · rw [if_pos he, if_pos (by omega)]
        rw [← e2, hb]; rfl
      · rw [if_neg he, if_neg (by omega)]
        exact h i hi0 hi1
    have ih := wr_disk X hf hc B nw (by simpa using hl) (fun j mb hj => hr (j + 1) mb hj) (A.write (1 + m.num % 6) (shtL m.num X.turn m.bef m.body)) (updS E (s.num % 6) s) h2
    have e7 : wrD X A (m :: B) = wrD X (A.write (1 + m.num % 6) (shtL m.num X.turn m.bef m.body)) B := by
      show wrD X (if _ then _ else _) B = _
      rw [if_neg e5, hf, hc]
    rw [e7]
    refine ⟨ih.1, fun i hi0 hi1 => ?_⟩
    rw [ih.2 i hi0 hi1]
    show (upd A.opn (1 + m.num % 6) true (1 + i) || _) = _
    unfold upd
    rw [List.any_cons, e2]
    by_cases he : s.num % 6 = i
    · rw [if_pos (by omega)]; simp [he]
    · have hb : (s.num % 6 == i) = false := by rw [beq_eq_false_iff_ne]; exact he
      rw [if_neg (by omega), hb, Bool.false_or]
theorem wr_clean (X : LgM) : ∀ (L : List ShM) (A : DA), (∀ s ∈ L, s.safe = (s.body.length : Int)) → wrD X A L = A
  | [], _, _ => rfl
  | s :: t, A, h => by
    show wrD X (if _ then _ else _) t = A
    rw [if_pos (h s (List.mem_cons_self ..))]
    exact wr_clean X t A (fun q hq => h q (List.mem_cons_of_mem _ hq))
/-- A log's disk behind the writes of its first m sheets. -/
theorem k_wr {k : KS} {X : LgM} (h : KOk k) (m : KMem k X) {A : DA} (hD : ∀ i, 0 ≤ i → i < 6 → A.lat (1 + i) = scB (k.E i)) (n : Nat) :
    (∀ i, 0 ≤ i → i < 6 → (wrD X A (X.shs.take n)).lat (1 + i) = scB (wrAll k.E (k.nw.take (n - k.di.length)) i)) ∧ ∀ i, 0 ≤ i → i < 6 → (wrD X A (X.shs.take n)).opn (1 + i) = (A.opn (1 + i) || (k.nw.take (n - k.di.length)).any fun s => s.num % 6 == i) := by
  obtain ⟨LA, B, e, h1, h2, hA, hB⟩ := m.cases h
  rw [e, List.take_append, wrD_append, wr_clean X (LA.take n) A (fun s hs => by
    obtain ⟨j, hj, e2⟩ := List.getElem_of_mem (List.mem_of_mem_take hs)
    obtain ⟨_, _, _, _, h5, _⟩ := hA j s (by rw [List.getElem?_eq_getElem hj, e2])
    exact h5), h1]
  refine wr_disk X m.first m.count _ _ (by rw [List.length_take, List.length_take, h2]) (fun j mb hj => ?_) A k.E hD
  rw [List.getElem?_take] at hj
  split at hj
  · rename_i hlt
    obtain ⟨s, f1, f2, f3, f4, f5, f6, f7, f8, f9⟩ := hB j mb hj
    exact ⟨s, by rw [List.getElem?_take, if_pos hlt]; exact f1, f2, f3, f4, by omega, by rw [f9, m.turn]⟩
  · cases hj
/-- The disk behind a crash: some of what was written stays. -/
def keptBy (k : KS) (n : Nat) (fs : List Int) (i : Int) : Bool := ((k.nw.take (n - k.di.length)).any fun s => s.num % 6 == i) && fs.contains (1 + i)
theorem k_wake {k : KS} {X : LgM} (h : KOk k) (m : KMem k X) {A A' : DA} (hD : DkIs A k.E) {n : Nat} (h1 : A'.lat = (wrD X A (X.shs.take n)).lat) (h2 : A'.opn = (wrD X A (X.shs.take n)).opn) (h3 : A'.saf = A.saf) (h4 : A'.n = A.n) (fs : List Int) : DkIs (A'.wake fs) (mixK (keptBy k n fs) k.E (wrAll k.E k.nw)) := by
  have hw := k_wr h m hD.lat n
  have hkey : ∀ i, 0 ≤ i → i < 6 → (if A'.opn (1 + i) && fs.contains (1 + i) then A'.lat (1 + i) else A'.saf (1 + i)) = scB (mixK (keptBy k n fs) k.E (wrAll k.E k.nw) i) := fun i hi0 hi1 => by
    rw [h1, h2, h3, hw.2 i hi0 hi1, hD.opn, Bool.false_or]
    unfold mixK keptBy
    split
    · rename_i hk
      rw [hw.1 i hi0 hi1]
      rw [Bool.and_eq_true] at hk
      obtain ⟨s, hs, e⟩ := List.any_eq_true.1 hk.1
      have e2 : s.num % 6 = i := by simpa using e
      have hfew := h.few
      rw [List.length_append] at hfew
      have hch := h.chn
      have hch2 := hch
      rw [← List.take_append_drop (n - k.di.length) k.nw] at hch
      rw [← e2, wrAll_in _ k.E _ _ hch.left (by rw [List.length_take]; omega) s hs, wrAll_in _ k.E _ _ hch2 (by omega) s (List.mem_of_mem_take hs)]
    · exact hD.saf i hi0 hi1
  exact ⟨by show A'.n = 7; rw [h4]; exact hD.n, hkey, hkey, fun i => rfl⟩
theorem k_synced {k : KS} {X : LgM} (h : KOk k) (m : KMem k X) {A : DA} (hD : DkIs A k.E) (ht : tickD (wrD X A X.shs).armed = false) : DkIs (wrD X A X.shs).sync (wrAll k.E k.nw) := by
  have hw := k_wr h m hD.lat X.shs.length
  rw [List.take_of_length_le (Nat.le_refl _)] at hw
  have hl := m.len
  unfold KS.sheets at hl
  rw [List.length_append] at hl
  rw [List.take_of_length_le (show k.nw.length ≤ X.shs.length - k.di.length by omega)] at hw
  unfold DA.sync
  rw [ht]
  exact ⟨by show (wrD X A X.shs).n = 7; rw [(wrD_n X _ A).1]; exact hD.n, hw.1, hw.1, fun i => rfl⟩
theorem DkIs.wake {A : DA} {E : Int → Option Sc} (h : DkIs A E) (fs : List Int) : DkIs (A.wake fs) E := by
  have hkey : ∀ i, 0 ≤ i → i < 6 → (if A.opn (1 + i) && fs.contains (1 + i) then A.lat (1 + i) else A.saf (1 + i)) = scB (E i) := fun i h0 h1 => by rw [h.opn]; exact h.saf i h0 h1
  exact ⟨h.n, hkey, hkey, fun i => rfl⟩
end Go.Proofs.YtfheikmjjijdpaaDoor

