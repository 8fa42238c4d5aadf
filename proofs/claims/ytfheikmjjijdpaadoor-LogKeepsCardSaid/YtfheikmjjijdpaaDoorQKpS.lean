/-
  ytfheikmjjijdpaadoor: laws and walks on the road to LogKeeps, joined: KpR KpS. Conditions stand at each theorem.
-/
import Derived.Test.YtfheikmjjijdpaaDoorQKpQ
namespace Go.Proofs.YtfheikmjjijdpaaDoor
open Go.RowKit Go.Maps
set_option linter.unusedVariables false
set_option linter.unusedSimpArgs false

structure KMem (k : KS) (X : LgM) : Prop where
  first : X.first = 1
  count : X.count = 6
  turn : X.turn = k.T
  oldest : ∀ s0, k.sheets[0]? = some s0 → X.oldest = k.N * 512 + ((putsL (s0.Rs.take k.cut)).length : Int) + 1
  ls : X.ls = (lsAll k.sheets).drop k.cut
  shs : ∃ A B, X.shs = A ++ B ∧ A.map ShM.cl = k.di.map Sc.cl ∧ B.map ShM.nwD = nwL (odLen k.od) k.lost k.nw
theorem cl_parts {m : ShM} {s : Sc} (h : m.cl = s.cl) : m.num = s.num ∧ m.tn = s.tn ∧ m.bef = s.bef ∧ m.body = putsL s.Rs ∧ m.safe = (s.len : Int) ∧ m.lost = false := by
  unfold ShM.cl Sc.cl at h
  injection h with h1 h; injection h with h2 h; injection h with h3 h; injection h with h4 h; injection h with h5 h6
  exact ⟨h1, h2, h3, h4, h5, h6⟩
theorem nw_parts {m : ShM} {s : Sc} {sf : Int} {lo : Bool} (h : m.nwD = s.nwD sf lo) : m.num = s.num ∧ m.bef = s.bef ∧ m.body = putsL s.Rs ∧ m.safe = sf ∧ m.lost = lo := by
  unfold ShM.nwD Sc.nwD at h
  injection h with h1 h; injection h with h2 h; injection h with h3 h; injection h with h4 h5
  exact ⟨h1, h2, h3, h4, h5⟩
theorem map_at {α β γ : Type} {f : α → γ} {g : β → γ} {l : List α} {r : List β} (h : l.map f = r.map g) {i : Nat} {y : β} (hy : r[i]? = some y) : ∃ x, l[i]? = some x ∧ f x = g y := by
  have h1 := congrArg (·[i]?) h
  simp only [List.getElem?_map, hy, Option.map_some] at h1
  cases hx : l[i]? with
  | none => rw [hx] at h1; cases h1
  | some x => rw [hx] at h1; injection h1 with h1; exact ⟨x, rfl, h1⟩
theorem nwL_length (sf : Int) (lo : Bool) (l : List Sc) : (nwL sf lo l).length = l.length := by cases l <;> simp [nwL]
theorem nwL_at {sf : Int} {lo : Bool} {l : List Sc} {i : Nat} {s : Sc} (h : l[i]? = some s) : ∃ sf' lo', (nwL sf lo l)[i]? = some (s.nwD sf' lo') ∧ (0 < i → sf' = 0 ∧ lo' = false) ∧ (i = 0 → sf' = sf ∧ lo' = lo) := by
  cases l with
  | nil => cases h
  | cons a t =>
    cases i with
    | zero => injection h with h; subst h; exact ⟨sf, lo, rfl, fun e => absurd e (by omega), fun _ => ⟨rfl, rfl⟩⟩
    | succ i =>
      refine ⟨0, false, ?_, fun _ => ⟨rfl, rfl⟩, fun e => absurd e (by omega)⟩
      have h2 : t[i]? = some s := h
      show (t.map _)[i]? = _
      rw [List.getElem?_map, h2]; rfl
theorem nwL_snoc (sf : Int) (lo : Bool) (l : List Sc) (s : Sc) (h : l ≠ []) : nwL sf lo (l ++ [s]) = nwL sf lo l ++ [s.nwD 0 false] := by
  cases l with
  | nil => exact absurd rfl h
  | cons a t => simp [nwL]
theorem KMem.len {k : KS} {X : LgM} (m : KMem k X) : X.shs.length = k.sheets.length := by
  obtain ⟨A, B, e, hA, hB⟩ := m.shs
  have h1 := congrArg List.length hA
  have h2 := congrArg List.length hB
  rw [List.length_map, List.length_map] at h1
  rw [List.length_map, nwL_length] at h2
  rw [e, List.length_append, h1, h2]
  unfold KS.sheets
  rw [List.length_append]
theorem KMem.at_ {k : KS} {X : LgM} (m : KMem k X) {i : Nat} {s : Sc} (hs : k.sheets[i]? = some s) : ∃ mm, X.shs[i]? = some mm ∧ mm.num = s.num ∧ mm.body = putsL s.Rs := by
  obtain ⟨A, B, e, hA, hB⟩ := m.shs
  have h1 := congrArg List.length hA
  rw [List.length_map, List.length_map] at h1
  unfold KS.sheets at hs
  by_cases hi : i < k.di.length
  · rw [List.getElem?_append_left hi] at hs
    obtain ⟨mm, h2, h3⟩ := map_at hA hs
    have h4 := cl_parts h3
    exact ⟨mm, by rw [e, List.getElem?_append_left (by omega)]; exact h2, h4.1, h4.2.2.2.1⟩
  · rw [List.getElem?_append_right (by omega)] at hs
    obtain ⟨sf, lo, h2, _⟩ := nwL_at (sf := odLen k.od) (lo := k.lost) hs
    have h3 := congrArg (·[i - k.di.length]?) hB
    simp only [List.getElem?_map, h2] at h3
    cases hx : B[i - k.di.length]? with
    | none => rw [hx] at h3; cases h3
    | some mm =>
      rw [hx] at h3
      injection h3 with h3
      have h4 := nw_parts h3
      exact ⟨mm, by rw [e, List.getElem?_append_right (by omega), h1]; exact hx, h4.1, h4.2.2.1⟩
theorem KOk.cut0 {k : KS} (h : KOk k) {s0 : Sc} (hs : k.sheets[0]? = some s0) : k.cut < s0.Rs.length := by
  unfold KS.sheets at hs
  cases hd : k.di with
  | cons a t =>
    rw [hd] at hs
    exact h.cut s0 (by rw [hd]; exact hs)
  | nil =>
    rw [hd, List.nil_append] at hs
    have hm : s0 ∈ k.nw := List.mem_of_getElem? hs
    cases ho : k.od with
    | nil =>
      have := (h.none_ (by rw [hd, ho]; rfl)).2.1
      have := (h.ok s0 hm).1.pos
      omega
    | cons o od' =>
      have ho' : od' = [] := by have := h.odl; rw [ho] at this; cases od' with | nil => rfl | cons _ _ => simp at this
      subst ho'
      have h1 := h.cut o (by rw [hd, ho]; rfl)
      obtain ⟨s, t, Rx, e1, e2, _⟩ := h.ovr o ho
      rw [e1] at hs
      injection hs with hs
      subst hs
      rw [e2, List.length_append]
      omega
theorem KOk.sorted {k : KS} (h : KOk k) : ((lsAll k.sheets).drop k.cut).Pairwise (· ≤ ·) := (ls_sorted k.sheets k.N none h.chnA h.okA).sublist (List.drop_sublist _ _)
theorem KS.all_length (k : KS) : k.all.length = ((lsAll k.sheets).drop k.cut).length := by unfold KS.all; rw [List.length_drop, List.length_drop, lsAll_recs]
/-- A record of the log stands where its Lsn says. -/
theorem k_rec {k : KS} {X : LgM} (h : KOk k) (m : KMem k X) : ∀ (j : Nat) (y : Int) (R : Rec), X.ls[j]? = some y → k.all[j]? = some R → ∃ i p s0 s rest, RecAtX X y R i p s0 s rest := by
  intro j y R hy hR
  have hmem : y ∈ X.ls := List.mem_of_getElem? hy
  rw [m.ls, List.getElem?_drop] at hy
  unfold KS.all at hR
  rw [List.getElem?_drop] at hR
  obtain ⟨i, s, q, rest, e1, e2, e3, e4, e5⟩ := recs_at k.sheets k.N none (k.cut + j) y R h.chnA hy hR
  have hms : s ∈ k.sheets := List.mem_of_getElem? e1
  have hsO := h.okA s hms
  obtain ⟨mm, f1, f2, f3⟩ := m.at_ e1
  have hpos : 0 < k.sheets.length := by have := (List.getElem?_eq_some_iff.1 e1).1; omega
  obtain ⟨s0, g0⟩ : ∃ s0, k.sheets[0]? = some s0 := ⟨_, List.getElem?_eq_getElem hpos⟩
  obtain ⟨m0, f4, f5, _⟩ := m.at_ g0
  have g1 := chn_at h.chnA g0
  refine ⟨i, q, m0, mm, rest, f4, f1, by rw [f2, f5, e2, g1]; simp, by rw [f2]; exact e3, by rw [f3]; exact e4, by rw [f3]; exact hsO.all.bytes, (hsO.all R e5).1, (hsO.all R e5).2, by simpa using hmem⟩
/-- The oldest place is the first record's. -/
theorem k_old {k : KS} {X : LgM} (h : KOk k) (m : KMem k X) : X.ls[0]? = some X.oldest := by
  have hpos : 0 < k.sheets.length := List.length_pos_iff.2 h.ne
  obtain ⟨s0, g0⟩ : ∃ s0, k.sheets[0]? = some s0 := ⟨_, List.getElem?_eq_getElem hpos⟩
  have hc := h.cut0 g0
  have hn := chn_at h.chnA g0
  rw [m.oldest s0 g0, m.ls, List.getElem?_drop, Nat.add_zero]
  cases hs : k.sheets with
  | nil => rw [hs] at g0; cases g0
  | cons a t =>
    rw [hs] at g0
    injection g0 with g0
    subst g0
    rw [show lsAll (a :: t) = lsnsL a.num 0 a.Rs ++ lsAll t by simp [lsAll], List.getElem?_append_left (by rw [lsnsL_length]; exact hc)]
    have h1 := lsnsL_cut a.num a.Rs k.cut (Nat.le_of_lt hc)
    have h2 : (lsnsL a.num 0 a.Rs)[k.cut]? = ((lsnsL a.num 0 a.Rs).drop k.cut)[0]? := by rw [List.getElem?_drop, Nat.add_zero]
    rw [h2, h1]
    cases hd : a.Rs.drop k.cut with
    | nil => have := congrArg List.length hd; simp at this; omega
    | cons R t2 => simp [lsnsL, hn]
theorem Sc.Ok.snoc {s : Sc} {R : Rec} {T : Int} (h : s.Ok) (hT : 1 ≤ T) (hr : rightR R = true) (hk : R.Ok) (hl : s.len + (putR R).length ≤ 496) : Sc.Ok ⟨s.num, T, s.bef, s.Rs ++ [R]⟩ :=
  ⟨h.num, hT, h.bef, by simp, fun q hq => by
    rcases List.mem_append.1 hq with hq | hq
    · exact h.all q hq
    · rw [List.mem_singleton.1 hq]; exact ⟨hr, hk⟩, by unfold Sc.len at hl ⊢; rw [putsL_append, List.length_append, show putsL [R] = putR R by simp [putsL]]; exact hl⟩
theorem Sc.Ok.one {n T b : Int} {R : Rec} (hn : 0 ≤ n) (hT : 1 ≤ T) (hb : 0 ≤ b ∧ b ≤ 496) (hr : rightR R = true) (hk : R.Ok) (hl : (putR R).length ≤ 496) : Sc.Ok ⟨n, T, b, [R]⟩ :=
  ⟨hn, hT, hb, by simp, fun q hq => by rw [List.mem_singleton.1 hq]; exact ⟨hr, hk⟩, by unfold Sc.len; rw [show putsL [R] = putR R by simp [putsL]]; exact hl⟩
theorem putsL_one (R : Rec) : putsL [R] = putR R := by simp [putsL]
theorem lsnsL_snoc (num : Int) (Rs : List Rec) (R : Rec) : lsnsL num 0 (Rs ++ [R]) = lsnsL num 0 Rs ++ [num * 512 + ((putsL Rs).length : Int) + 1] := by rw [lsnsL_append, Nat.zero_add]; simp [lsnsL]
theorem od_nil {k : KS} (h : KOk k) (e : k.nw = []) : k.od = [] := by
  cases ho : k.od with
  | nil => rfl
  | cons o od' =>
    have ho' : od' = [] := by have := h.odl; rw [ho] at this; cases od' with | nil => rfl | cons _ _ => simp at this
    subst ho'
    obtain ⟨s, t, Rx, e1, _⟩ := h.ovr o ho
    rw [e] at e1; cases e1
theorem snoc_of {α : Type} {l : List α} (h : l ≠ []) : ∃ i x, l = i ++ [x] := ⟨l.dropLast, l.getLast h, (List.dropLast_concat_getLast h).symm⟩
theorem map_snoc {α β γ : Type} {f : α → γ} {g : β → γ} {l : List α} {r : List β} {y : β} (h : l.map f = (r ++ [y]).map g) : ∃ l' x, l = l' ++ [x] ∧ l'.map f = r.map g ∧ f x = g y := by
  have hl := congrArg List.length h
  rw [List.length_map, List.length_map, List.length_append] at hl
  have hne : l ≠ [] := fun e => by rw [e] at hl; simp at hl
  obtain ⟨l', x, rfl⟩ := snoc_of hne
  rw [List.map_append, List.map_append] at h
  have h2 := List.append_inj' h rfl
  simp at h2
  exact ⟨l', x, rfl, h2.1, h2.2⟩
end Go.Proofs.YtfheikmjjijdpaaDoor

namespace Go.Proofs.YtfheikmjjijdpaaDoor
open Go.RowKit Go.Maps
set_option linter.unusedVariables false
set_option linter.unusedSimpArgs false

theorem Chn.last {n : Int} {p : Option Sc} {a : List Sc} {s s' : Sc} (h : Chn n p (a ++ [s])) (h1 : s'.num = s.num) (h2 : s.tn ≤ s'.tn) (h3 : s'.bef = s.bef) : Chn n p (a ++ [s']) := by
  refine h.left.append ?_
  have h4 := h.right
  exact ⟨by rw [h1]; exact h4.1, fun x hx => by have := h4.2.1 x hx; exact ⟨by omega, by rw [h3]; exact this.2⟩, trivial⟩
theorem Chn.snoc {n : Int} {p : Option Sc} {a : List Sc} {s : Sc} (h : Chn n p a) (h1 : s.num = n + (a.length : Int)) (h2 : ∀ x, lastOr p a = some x → x.tn ≤ s.tn ∧ s.bef = (x.len : Int)) : Chn n p (a ++ [s]) := h.append ⟨h1, h2, trivial⟩
theorem lastOr_append (p : Option Sc) (a b : List Sc) : lastOr p (a ++ b) = lastOr (lastOr p a) b := by
  induction a generalizing p with
  | nil => rw [lastOr_nil]; rfl
  | cons s t ih => rw [List.cons_append, lastOr_cons, lastOr_cons]; exact ih (some s)
theorem recsOf_snoc (l : List Sc) (s : Sc) : recsOf (l ++ [s]) = recsOf l ++ s.Rs := by simp [recsOf]
theorem recs_grow (l : List Sc) (s : Sc) (R : Rec) (n t b : Int) : recsOf (l ++ [⟨n, t, b, s.Rs ++ [R]⟩]) = recsOf (l ++ [s]) ++ [R] := by rw [recsOf_snoc, recsOf_snoc, List.append_assoc]
theorem ls_grow (l : List Sc) (s : Sc) (R : Rec) (t b : Int) : lsAll (l ++ [⟨s.num, t, b, s.Rs ++ [R]⟩]) = lsAll (l ++ [s]) ++ [s.num * 512 + ((putsL s.Rs).length : Int) + 1] := by rw [lsAll_snoc, lsAll_snoc, lsnsL_snoc, List.append_assoc]
theorem KOk.cutLe {k : KS} (h : KOk k) : k.cut ≤ (recsOf k.sheets).length := by
  have hpos : 0 < k.sheets.length := List.length_pos_iff.2 h.ne
  obtain ⟨s0, g0⟩ : ∃ s0, k.sheets[0]? = some s0 := ⟨_, List.getElem?_eq_getElem hpos⟩
  have hc := h.cut0 g0
  cases hs : k.sheets with
  | nil => rw [hs] at g0; cases g0
  | cons a t =>
    rw [hs] at g0
    injection g0 with g0
    subst g0
    rw [show recsOf (a :: t) = a.Rs ++ recsOf t by simp [recsOf], List.length_append]
    omega
/-- The oldest place of a log whose last sheet has grown. -/
theorem old_grow {l : List Sc} {s : Sc} {R : Rec} {n t b : Int} {cut : Nat} (hc : ∀ s0, (l ++ [s])[0]? = some s0 → cut < s0.Rs.length) {s0 : Sc} (h : (l ++ [(⟨n, t, b, s.Rs ++ [R]⟩ : Sc)])[0]? = some s0) : ∃ s1, (l ++ [s])[0]? = some s1 ∧ s0.Rs.take cut = s1.Rs.take cut := by
  cases l with
  | nil =>
    injection h with h
    subst h
    have := hc s rfl
    refine ⟨s, rfl, ?_⟩
    show (s.Rs ++ [R]).take cut = _
    rw [List.take_append_of_le_length (Nat.le_of_lt this)]
  | cons a l => exact ⟨s0, h, rfl⟩
theorem nw_parts' {s : Sc} {sf sf' : Int} {lo lo' : Bool} (h : s.nwD sf lo = s.nwD sf' lo') : sf = sf' ∧ lo = lo' := by
  unfold Sc.nwD at h
  injection h with h1 h; injection h with h2 h; injection h with h3 h; injection h with h4 h5
  exact ⟨h4, h5⟩
structure KStep (k k' : KS) (R : Rec) : Prop where
  T : k'.T = k.T
  E : k'.E = k.E
  N : k'.N = k.N
  all : k'.all = k.all ++ [R]
  safe : k'.safe = k.safe
section
variable {k : KS} {X : LgM} {init : List ShM} {mm : ShM} {R : Rec} {gb' c' : Nat} {Al' : Option Addr} {cl' : Nat}
theorem k_app_fit (h : KOk k) (m : KMem k X) (es : X.shs = init ++ [mm]) (hr : rightR R = true) (hk : R.Ok) (hl : mm.body.length + (putR R).length ≤ 496) :
    ∃ k', KOk k' ∧ KStep k k' R ∧ k'.sheets.length = k.sheets.length ∧ KMem k' { X with shs := init ++ [{ mm with gb := gb', c := c', body := mm.body ++ putR R }], Al := Al', cl := cl', ls := X.ls ++ [mm.num * 512 + (mm.body.length : Int) + 1] } := by
  obtain ⟨A, B, eAB, hA, hB⟩ := m.shs
  have hcl := h.cutLe
  by_cases hn : k.nw = []
  · -- the last sheet was safe, and grows
    have ho := od_nil h hn
    have hdne : k.di ≠ [] := fun e => h.ne (by rw [e, hn]; rfl)
    obtain ⟨d, o, hd⟩ := snoc_of hdne
    have hlost : k.lost = false := by
      cases hl : k.lost with
      | false => rfl
      | true => have := h.lost hl; rw [ho, List.append_nil] at this; exact absurd this hdne
    rw [hn] at hB
    have hB0 : B = [] := List.map_eq_nil_iff.1 hB
    rw [hd] at hA
    obtain ⟨A', mo, eA, hA', hmo⟩ := map_snoc hA
    have e1 : init ++ [mm] = A' ++ [mo] := by rw [← es, eAB, hB0, List.append_nil, eA]
    have e2 := List.append_inj' e1 rfl
    have e3 : mm = mo := by simpa using e2.2
    subst e3
    have hm := cl_parts hmo
    have hsh : k.sheets = d ++ [o] := by unfold KS.sheets; rw [hd, hn, List.append_nil]
    have hoO := h.dur.ok o (by rw [hd]; simp)
    rw [hm.2.2.2.1] at hl
    have hc0 := fun s0 (e : (d ++ [o])[0]? = some s0) => h.cut0 (s0 := s0) (by rw [hsh]; exact e)
    have hchn := h.dur.chn
    rw [ho, List.append_nil, hd] at hchn
    have hsO : Sc.Ok ⟨o.num, k.T, o.bef, o.Rs ++ [R]⟩ := hoO.1.snoc h.T1 hr hk hl
    refine ⟨{ k with di := d, od := [o], nw := [⟨o.num, k.T, o.bef, o.Rs ++ [R]⟩] }, ⟨by have h9 := h.dur; rw [ho, List.append_nil, hd] at h9; exact h9, h.T1, ?_, fun s hs => by rw [List.mem_singleton.1 hs]; exact ⟨hsO, rfl⟩, ?_, Nat.le_refl _, ?_, fun s0 e => h.cut s0 (by rw [ho, List.append_nil, hd]; exact e), ?_, ?_, by simp⟩, ⟨rfl, rfl, rfl, ?_, ?_⟩, ?_, ⟨m.first, m.count, m.turn, ?_, ?_, ?_⟩⟩
    · have h9 := hchn.right
      exact ⟨h9.1, fun x hx => by have := h9.2.1 x hx; exact ⟨by have := hoO.2; show x.tn ≤ k.T; omega, this.2⟩, trivial⟩
    · have := h.few; rw [hd, hn] at this; simp at this ⊢; omega
    · intro o' e
      injection e with e
      subst e
      exact ⟨_, [], [R], rfl, rfl, by simp, rfl, rfl⟩
    · intro e; rw [hlost] at e; cases e
    · intro e; exact absurd e (by simp)
    · show (recsOf (d ++ [_])).drop k.cut = (recsOf k.sheets).drop k.cut ++ [R]
      rw [recs_grow, ← hsh, List.drop_append_of_le_length hcl]
    · show (recsOf (d ++ [o])).length - k.cut = (recsOf (k.di ++ k.od)).length - k.cut
      rw [ho, List.append_nil, hd]
    · show (d ++ [_]).length = k.sheets.length
      rw [hsh]; simp
    · intro s0 e
      obtain ⟨s1, f1, f2⟩ := old_grow hc0 e
      show X.oldest = k.N * 512 + ((putsL (s0.Rs.take k.cut)).length : Int) + 1
      rw [f2]
      exact m.oldest s1 (by rw [hsh]; exact f1)
    · show X.ls ++ [_] = (lsAll (d ++ [_])).drop k.cut
      rw [ls_grow, ← hsh, List.drop_append_of_le_length (by rw [lsAll_recs]; exact hcl), m.ls, hm.1, hm.2.2.2.1]
    · refine ⟨A', [{ mm with gb := gb', c := c', body := mm.body ++ putR R }], by rw [e2.1], hA', ?_⟩
      simp only [List.map_cons, List.map_nil, nwL, odLen]
      unfold ShM.nwD Sc.nwD
      rw [hm.1, hm.2.2.1, hm.2.2.2.1, hm.2.2.2.2.1, hm.2.2.2.2.2, hlost, putsL_append, putsL_one]
  · obtain ⟨n', s, hs⟩ := snoc_of hn
    have hBl := congrArg List.length hB
    rw [List.length_map, nwL_length, hs, List.length_append] at hBl
    have hBne : B ≠ [] := fun e => by rw [e] at hBl; simp at hBl
    obtain ⟨B', mb, eB⟩ := snoc_of hBne
    have e1 : init ++ [mm] = (A ++ B') ++ [mb] := by rw [← es, eAB, eB, List.append_assoc]
    have e2 := List.append_inj' e1 rfl
    have e3 : mm = mb := by simpa using e2.2
    subst e3
    have hBl2 : B'.length = n'.length := by rw [eB] at hBl; simp at hBl; omega
    obtain ⟨sf, lo, hat, _⟩ := nwL_at (sf := odLen k.od) (lo := k.lost) (l := k.nw) (i := n'.length) (s := s) (by rw [hs]; simp)
    have hat2 : mm.nwD = s.nwD sf lo := by
      have h9 := congrArg (·[n'.length]?) hB
      simp only [hat] at h9
      rw [eB, List.getElem?_map, ← hBl2, List.getElem?_append_right (Nat.le_refl _), Nat.sub_self] at h9
      injection h9
    have hm := nw_parts hat2
    have hsO := h.ok s (by rw [hs]; simp)
    have hsh : k.sheets = (k.di ++ n') ++ [s] := by unfold KS.sheets; rw [hs, List.append_assoc]
    rw [hm.2.2.1] at hl
    have hc0 := fun s0 (e : ((k.di ++ n') ++ [s])[0]? = some s0) => h.cut0 (s0 := s0) (by rw [hsh]; exact e)
    have hsO' : Sc.Ok ⟨s.num, k.T, s.bef, s.Rs ++ [R]⟩ := hsO.1.snoc h.T1 hr hk hl
    have hsh' : ({ k with nw := n' ++ [⟨s.num, k.T, s.bef, s.Rs ++ [R]⟩] } : KS).sheets = (k.di ++ n') ++ [⟨s.num, k.T, s.bef, s.Rs ++ [R]⟩] := by unfold KS.sheets; rw [List.append_assoc]
    refine ⟨{ k with nw := n' ++ [⟨s.num, k.T, s.bef, s.Rs ++ [R]⟩] }, ⟨h.dur, h.T1, ?_, fun q hq => ?_, ?_, h.odl, ?_, h.cut, h.lost, h.none_, by simp⟩, ⟨rfl, rfl, rfl, ?_, rfl⟩, ?_, ⟨m.first, m.count, m.turn, ?_, ?_, ?_⟩⟩
    · have h9 := h.chn
      rw [hs] at h9
      exact h9.last rfl (by show s.tn ≤ k.T; rw [hsO.2]; exact Int.le_refl _) rfl
    · rcases List.mem_append.1 hq with hq | hq
      · exact h.ok q (by rw [hs]; exact List.mem_append_left _ hq)
      · rw [List.mem_singleton.1 hq]; exact ⟨hsO', rfl⟩
    · have := h.few; rw [hs] at this; simp at this ⊢; omega
    · intro o e
      obtain ⟨s1, t1, Rx, f1, f2, f3, f4, f5⟩ := h.ovr o e
      rw [hs] at f1
      cases n' with
      | nil =>
        injection f1 with f1 _
        subst f1
        exact ⟨_, [], Rx ++ [R], rfl, by show s.Rs ++ [R] = _; rw [f2, List.append_assoc], by simp, f4, f5⟩
      | cons a n2 =>
        injection f1 with f1 f1'
        subst f1
        exact ⟨a, n2 ++ [⟨s.num, k.T, s.bef, s.Rs ++ [R]⟩], Rx, rfl, f2, f3, f4, f5⟩
    · show (recsOf _).drop k.cut = (recsOf k.sheets).drop k.cut ++ [R]
      rw [hsh', recs_grow, ← hsh, List.drop_append_of_le_length hcl]
    · rw [hsh', hsh]; simp
    · intro s0 e
      rw [hsh'] at e
      obtain ⟨s1, f1, f2⟩ := old_grow hc0 e
      show X.oldest = k.N * 512 + ((putsL (s0.Rs.take k.cut)).length : Int) + 1
      rw [f2]
      exact m.oldest s1 (by rw [hsh]; exact f1)
    · show X.ls ++ [_] = (lsAll _).drop k.cut
      rw [hsh', ls_grow, ← hsh, List.drop_append_of_le_length (by rw [lsAll_recs]; exact hcl), m.ls, hm.1, hm.2.2.1]
    · refine ⟨A, B' ++ [{ mm with gb := gb', c := c', body := mm.body ++ putR R }], by rw [e2.1, List.append_assoc], hA, ?_⟩
      show _ = nwL (odLen k.od) k.lost (n' ++ [_])
      have hnew : ShM.nwD { mm with gb := gb', c := c', body := mm.body ++ putR R } = Sc.nwD ⟨s.num, k.T, s.bef, s.Rs ++ [R]⟩ sf lo := by
        unfold ShM.nwD Sc.nwD
        rw [hm.1, hm.2.1, hm.2.2.1, hm.2.2.2.1, hm.2.2.2.2, putsL_append, putsL_one]
      rw [List.map_append, List.map_cons, List.map_nil, hnew]
      rw [hs, eB, List.map_append] at hB
      cases n' with
      | nil =>
        have hB'0 : B' = [] := List.length_eq_zero_iff.1 hBl2
        subst hB'0
        rw [hs] at hat
        injection hat with hat
        have hat3 := nw_parts' hat
        rw [hat3.1, hat3.2]
        rfl
      | cons a n2 =>
        rw [nwL_snoc _ _ _ _ (by simp)] at hB ⊢
        have h9 := List.append_inj' hB rfl
        rw [h9.1]
        have h10 : s.nwD sf lo = s.nwD 0 false := by
          have h11 := h9.2
          simp at h11
          rw [← hat2]; exact h11
        have h12 := nw_parts' h10
        rw [h12.1, h12.2]
end
end Go.Proofs.YtfheikmjjijdpaaDoor

