/-
  What LogKeeps keeps, plain: a log's records and Lsns over its sheets; where each stands; which sheets want writing. No program in sight.
-/
import Derived.Test.YtfheikmjjijdpaaDoorQLhO
namespace Go.Proofs.YtfheikmjjijdpaaDoor
open Go.RowKit Go.Maps
set_option linter.unusedVariables false
set_option linter.unusedSimpArgs false

def recsOf (ss : List Sc) : List Rec := ss.flatMap fun s => s.Rs
theorem recsOf_append (a b : List Sc) : recsOf (a ++ b) = recsOf a ++ recsOf b := by simp [recsOf]
theorem lsAll_append (a b : List Sc) : lsAll (a ++ b) = lsAll a ++ lsAll b := by simp [lsAll]
theorem lsAll_recs (ss : List Sc) : (lsAll ss).length = (recsOf ss).length := by
  induction ss with
  | nil => rfl
  | cons s t ih => simp only [lsAll, recsOf, List.flatMap_cons, List.length_append, lsnsL_length] at ih ⊢; omega
theorem lsns_at (num : Int) : ∀ (Rs : List Rec) (p0 j : Nat) (y : Int) (R : Rec), (lsnsL num p0 Rs)[j]? = some y → Rs[j]? = some R → ∃ p rest, y = num * 512 + ((p0 + p : Nat) : Int) + 1 ∧ (putsL Rs).drop p = putR R ++ rest ∧ R ∈ Rs
  | [], _, _, _, _, _, h => by simp at h
  | A :: t, p0, 0, y, R, h, h2 => by
    simp only [lsnsL, List.getElem?_cons_zero, Option.some.injEq] at h h2
    subst h2
    exact ⟨0, putsL t, by rw [← h, Nat.add_zero], by simp [putsL], List.mem_cons_self ..⟩
  | A :: t, p0, j + 1, y, R, h, h2 => by
    simp only [lsnsL, List.getElem?_cons_succ] at h h2
    obtain ⟨p, rest, e1, e2, e3⟩ := lsns_at num t (p0 + (putR A).length) j y R h h2
    refine ⟨(putR A).length + p, rest, by rw [e1]; congr 2; omega, ?_, List.mem_cons_of_mem _ e3⟩
    rw [show putsL (A :: t) = putR A ++ putsL t by simp [putsL], List.drop_append, List.drop_of_length_le (by omega), Nat.add_sub_cancel_left, List.nil_append]
    exact e2
/-- Where a record stands. -/
theorem recs_at : ∀ (ss : List Sc) (n : Int) (p : Option Sc) (j : Nat) (y : Int) (R : Rec), Chn n p ss → (lsAll ss)[j]? = some y → (recsOf ss)[j]? = some R →
    ∃ (i : Nat) (s : Sc) (q : Nat) (rest : List Int), ss[i]? = some s ∧ s.num = n + (i : Int) ∧ y = s.num * 512 + (q : Int) + 1 ∧ (putsL s.Rs).drop q = putR R ++ rest ∧ R ∈ s.Rs
  | [], _, _, _, _, _, _, h, _ => by simp [lsAll] at h
  | a :: t, n, p, j, y, R, hc, h, h2 => by
    have e1 : lsAll (a :: t) = lsnsL a.num 0 a.Rs ++ lsAll t := by simp [lsAll]
    have e2 : recsOf (a :: t) = a.Rs ++ recsOf t := by simp [recsOf]
    rw [e1] at h; rw [e2] at h2
    have hl : (lsnsL a.num 0 a.Rs).length = a.Rs.length := lsnsL_length _ _ _
    by_cases hj : j < a.Rs.length
    · rw [List.getElem?_append_left (by omega)] at h
      rw [List.getElem?_append_left hj] at h2
      obtain ⟨q, rest, e3, e4, e5⟩ := lsns_at a.num a.Rs 0 j y R h h2
      exact ⟨0, a, q, rest, rfl, by rw [hc.1]; simp, by rw [e3, Nat.zero_add], e4, e5⟩
    · rw [List.getElem?_append_right (by omega), hl] at h
      rw [List.getElem?_append_right (by omega)] at h2
      obtain ⟨i, s, q, rest, f1, f2, f3⟩ := recs_at t (n + 1) (some a) (j - a.Rs.length) y R hc.2.2 h h2
      exact ⟨i + 1, s, q, rest, f1, by rw [f2]; omega, f3⟩
theorem lsns_ge (num : Int) : ∀ (Rs : List Rec) (p0 : Nat), ∀ y ∈ lsnsL num p0 Rs, num * 512 + (p0 : Int) + 1 ≤ y
  | [], _, y, h => by simp [lsnsL] at h
  | A :: t, p0, y, h => by
    rcases List.mem_cons.1 (show y ∈ (num * 512 + (p0 : Int) + 1) :: lsnsL num (p0 + (putR A).length) t by simpa [lsnsL] using h) with rfl | h
    · exact Int.le_refl _
    · have := lsns_ge num t (p0 + (putR A).length) y h; omega
theorem lsns_lt (num : Int) : ∀ (Rs : List Rec) (p0 : Nat), AllOk Rs → ∀ y ∈ lsnsL num p0 Rs, y < num * 512 + ((p0 + (putsL Rs).length : Nat) : Int) + 1
  | [], _, _, y, h => by simp [lsnsL] at h
  | A :: t, p0, hok, y, h => by
    have h3 := (rput_len (hok A (List.mem_cons_self ..)).1 (hok A (List.mem_cons_self ..)).2).1
    have e : (putsL (A :: t)).length = (putR A).length + (putsL t).length := by simp [putsL]
    rw [e]
    rcases List.mem_cons.1 (show y ∈ (num * 512 + (p0 : Int) + 1) :: lsnsL num (p0 + (putR A).length) t by simpa [lsnsL] using h) with rfl | h
    · omega
    · have := lsns_lt num t (p0 + (putR A).length) (fun R hR => hok R (List.mem_cons_of_mem _ hR)) y h; omega
theorem lsns_sorted (num : Int) : ∀ (Rs : List Rec) (p0 : Nat), (lsnsL num p0 Rs).Pairwise (· ≤ ·)
  | [], _ => by simp [lsnsL]
  | A :: t, p0 => by
    have e : lsnsL num p0 (A :: t) = (num * 512 + (p0 : Int) + 1) :: lsnsL num (p0 + (putR A).length) t := by simp [lsnsL]
    rw [e, List.pairwise_cons]
    exact ⟨fun y hy => by have := lsns_ge num t (p0 + (putR A).length) y hy; omega, lsns_sorted num t _⟩
theorem ls_ge : ∀ (ss : List Sc) (n : Int) (p : Option Sc), Chn n p ss → ∀ y ∈ lsAll ss, n * 512 + 1 ≤ y
  | [], _, _, _, y, h => by simp [lsAll] at h
  | a :: t, n, p, hc, y, h => by
    rw [show lsAll (a :: t) = lsnsL a.num 0 a.Rs ++ lsAll t by simp [lsAll]] at h
    rcases List.mem_append.1 h with h | h
    · have := lsns_ge a.num a.Rs 0 y h; rw [hc.1] at this; omega
    · have := ls_ge t (n + 1) (some a) hc.2.2 y h; omega
theorem ls_sorted : ∀ (ss : List Sc) (n : Int) (p : Option Sc), Chn n p ss → (∀ s ∈ ss, s.Ok) → (lsAll ss).Pairwise (· ≤ ·)
  | [], _, _, _, _ => by simp [lsAll]
  | a :: t, n, p, hc, hok => by
    rw [show lsAll (a :: t) = lsnsL a.num 0 a.Rs ++ lsAll t by simp [lsAll], List.pairwise_append]
    refine ⟨lsns_sorted _ _ _, ls_sorted t _ _ hc.2.2 (fun s hs => hok s (List.mem_cons_of_mem _ hs)), fun x hx y hy => ?_⟩
    have h1 := lsns_lt a.num a.Rs 0 (hok a (List.mem_cons_self ..)).all x hx
    have h2 := (hok a (List.mem_cons_self ..)).len
    have h3 := ls_ge t (n + 1) (some a) hc.2.2 y hy
    unfold Sc.len at h2
    rw [hc.1] at h1
    omega
theorem ls_lt : ∀ (ss : List Sc) (n : Int) (p : Option Sc), Chn n p ss → (∀ s ∈ ss, s.Ok) → ∀ x, lastOr p ss = some x → ss ≠ [] → ∀ y ∈ lsAll ss, y < x.num * 512 + (x.len : Int) + 1
  | [], _, _, _, _, _, _, h, _, _ => absurd rfl h
  | a :: [], n, p, hc, hok, x, hx, _, y, hy => by
    rw [lastOr_cons, lastOr_nil] at hx
    injection hx with hx
    subst hx
    have := lsns_lt a.num a.Rs 0 (hok a (List.mem_cons_self ..)).all y (by simpa [lsAll] using hy)
    unfold Sc.len
    omega
  | a :: b :: t, n, p, hc, hok, x, hx, _, y, hy => by
    rw [lastOr_cons] at hx
    have ih := ls_lt (b :: t) (n + 1) (some a) hc.2.2 (fun s hs => hok s (List.mem_cons_of_mem _ hs)) x hx (by simp)
    rw [show lsAll (a :: b :: t) = lsnsL a.num 0 a.Rs ++ lsAll (b :: t) by simp [lsAll]] at hy
    rcases List.mem_append.1 hy with hy | hy
    · have h1 := lsns_lt a.num a.Rs 0 (hok a (List.mem_cons_self ..)).all y hy
      have h2 := (hok a (List.mem_cons_self ..)).len
      have hp := (hok b (by simp)).pos
      obtain ⟨z, hz⟩ : ∃ z, z ∈ lsAll (b :: t) := by
        have hb : 0 < (lsAll (b :: t)).length := by rw [show lsAll (b :: t) = lsnsL b.num 0 b.Rs ++ lsAll t by simp [lsAll], List.length_append, lsnsL_length]; omega
        exact ⟨_, List.getElem_mem hb⟩
      have h3 := ih z hz
      have h4 := ls_ge (b :: t) (n + 1) (some a) hc.2.2 z hz
      unfold Sc.len at h2
      rw [hc.1] at h1
      omega
    · exact ih y hy
/-- What is kept of a sheet that was not written since, and of one that is to be written. -/
def ShM.cl (m : ShM) : Int × Int × Int × List Int × Int × Bool := (m.num, m.tn, m.bef, m.body, m.safe, m.lost)
def Sc.cl (s : Sc) : Int × Int × Int × List Int × Int × Bool := (s.num, s.tn, s.bef, putsL s.Rs, (s.len : Int), false)
def ShM.nwD (m : ShM) : Int × Int × List Int × Int × Bool := (m.num, m.bef, m.body, m.safe, m.lost)
def Sc.nwD (s : Sc) (sf : Int) (lo : Bool) : Int × Int × List Int × Int × Bool := (s.num, s.bef, putsL s.Rs, sf, lo)
def nwL (sf : Int) (lo : Bool) : List Sc → List (Int × Int × List Int × Int × Bool)
  | [] => []
  | s :: t => s.nwD sf lo :: t.map fun s => s.nwD 0 false
def odLen : List Sc → Int
  | [] => 0
  | o :: _ => (o.len : Int)
/-- A log, as LogKeeps knows it: sheets that are safe, the safe part of one that has grown, those to be written; the disk. -/
structure KS where
  N : Int
  T : Int
  cut : Nat
  di : List Sc
  od : List Sc
  nw : List Sc
  lost : Bool
  E : Int → Option Sc
def KS.sheets (k : KS) : List Sc := k.di ++ k.nw
def KS.all (k : KS) : List Rec := (recsOf k.sheets).drop k.cut
def KS.safe (k : KS) : Nat := (recsOf (k.di ++ k.od)).length - k.cut
structure KOk (k : KS) : Prop where
  dur : Dur k.T k.N (k.di ++ k.od) k.E
  T1 : 1 ≤ k.T
  chn : Chn (k.N + k.di.length) (lastOr none k.di) k.nw
  ok : ∀ s ∈ k.nw, s.Ok ∧ s.tn = k.T
  few : (k.di ++ k.nw).length ≤ 5
  odl : k.od.length ≤ 1
  ovr : ∀ o, k.od = [o] → ∃ s t Rx, k.nw = s :: t ∧ s.Rs = o.Rs ++ Rx ∧ Rx ≠ [] ∧ s.num = o.num ∧ s.bef = o.bef
  cut : ∀ s0, (k.di ++ k.od)[0]? = some s0 → k.cut < s0.Rs.length
  lost : k.lost = true → k.di ++ k.od = []
  none_ : k.di ++ k.od = [] → k.N = 0 ∧ k.cut = 0 ∧ k.lost = true
  ne : k.di ++ k.nw ≠ []
theorem KOk.chnA {k : KS} (h : KOk k) : Chn k.N none k.sheets := h.dur.chn.left.append h.chn
theorem KOk.okA {k : KS} (h : KOk k) : ∀ s ∈ k.sheets, s.Ok := fun s hs => by
  rcases List.mem_append.1 hs with hs | hs
  · exact (h.dur.ok s (List.mem_append_left _ hs)).1
  · exact (h.ok s hs).1
/-- The first sheet that is to be written has more than is safe. -/
theorem KOk.more {k : KS} (h : KOk k) {s : Sc} {t : List Sc} (e : k.nw = s :: t) : odLen k.od < (s.len : Int) ∧ 0 ≤ odLen k.od := by
  have hs := (h.ok s (by rw [e]; simp)).1
  cases ho : k.od with
  | nil => exact ⟨by have := hs.pos; show (0 : Int) < _; omega, Int.le_refl _⟩
  | cons o od' =>
    have ho' : od' = [] := by have := h.odl; rw [ho] at this; cases od' with | nil => rfl | cons _ _ => simp at this
    subst ho'
    obtain ⟨s', t', Rx, e1, e2, e3, _⟩ := h.ovr o ho
    rw [e] at e1
    injection e1 with e1 _
    subst e1
    have hx : AllOk Rx := fun R hR => hs.all R (by rw [e2]; exact List.mem_append_right _ hR)
    have h1 := puts_ge hx
    have h2 : 0 < Rx.length := List.length_pos_iff.2 e3
    have h3 : s.len = o.len + (putsL Rx).length := by unfold Sc.len; rw [e2, putsL_append, List.length_append]
    refine ⟨?_, by show (0 : Int) ≤ (o.len : Int); omega⟩
    show (o.len : Int) < _
    omega
/-- The Lsn of the first record that is not safe is one of the log's. -/
theorem KOk.unsafe_ {k : KS} (h : KOk k) {s : Sc} {t : List Sc} (e : k.nw = s :: t) : s.num * 512 + odLen k.od + 1 ∈ (lsAll k.sheets).drop k.cut := by
  have hs := (h.ok s (by rw [e]; simp)).1
  have hsp := hs.pos
  have key : ∀ (O Rx : List Rec), s.Rs = O ++ Rx → Rx ≠ [] → odLen k.od = ((putsL O).length : Int) → k.cut ≤ (recsOf k.di).length + O.length → s.num * 512 + odLen k.od + 1 ∈ (lsAll k.sheets).drop k.cut := by
    intro O Rx e1 e2 e3 e4
    have e5 : lsAll k.sheets = (lsAll k.di ++ lsnsL s.num 0 O) ++ (lsnsL s.num (putsL O).length Rx ++ lsAll t) := by
      unfold KS.sheets
      rw [lsAll_append, e, show lsAll (s :: t) = lsnsL s.num 0 s.Rs ++ lsAll t by simp [lsAll], e1, lsnsL_append, Nat.zero_add]
      simp only [List.append_assoc]
    rw [e5, List.drop_append_of_le_length (by rw [List.length_append, lsnsL_length, lsAll_recs]; exact e4)]
    refine List.mem_append_right _ (List.mem_append_left _ ?_)
    cases Rx with
    | nil => exact absurd rfl e2
    | cons R rx => rw [show lsnsL s.num (putsL O).length (R :: rx) = (s.num * 512 + ((putsL O).length : Int) + 1) :: lsnsL s.num ((putsL O).length + (putR R).length) rx by simp [lsnsL], e3]; exact List.mem_cons_self ..
  cases ho : k.od with
  | nil =>
    refine ho ▸ key [] s.Rs rfl hs.some_ (by rw [ho]; rfl) ?_
    by_cases hd : k.di = []
    · have := (h.none_ (by rw [hd, ho]; rfl)).2.1; omega
    · obtain ⟨a, d, e2⟩ := List.exists_cons_of_ne_nil hd
      have := h.cut a (by rw [e2]; rfl)
      rw [e2, show recsOf (a :: d) = a.Rs ++ recsOf d by simp [recsOf], List.length_append]
      simp only [List.length_nil]
      omega
  | cons o od' =>
    have ho' : od' = [] := by have := h.odl; rw [ho] at this; cases od' with | nil => rfl | cons _ _ => simp at this
    subst ho'
    obtain ⟨s', t', Rx, e1, e2, e3, _⟩ := h.ovr o ho
    rw [e] at e1
    injection e1 with e1 _
    subst e1
    refine ho ▸ key o.Rs Rx e2 e3 (by rw [ho]; rfl) ?_
    by_cases hd : k.di = []
    · have := h.cut o (by rw [hd, ho]; rfl)
      omega
    · obtain ⟨a, d, e4⟩ := List.exists_cons_of_ne_nil hd
      have := h.cut a (by rw [e4]; rfl)
      rw [e4, show recsOf (a :: d) = a.Rs ++ recsOf d by simp [recsOf], List.length_append]
      omega
end Go.Proofs.YtfheikmjjijdpaaDoor

