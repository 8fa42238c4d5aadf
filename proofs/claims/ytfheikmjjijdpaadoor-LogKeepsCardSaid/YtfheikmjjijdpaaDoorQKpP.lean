/-
  What a log keeps over crashes, plain: sheets on a disk of six sectors, any of what was written staying; the sheets that are found again. No program in sight.
-/
import Derived.Test.YtfheikmjjijdpaaDoorQLgP
namespace Go.Proofs.YtfheikmjjijdpaaDoor
set_option linter.unusedVariables false

/-- A sheet on the disk. -/
structure Sc where
  num : Int
  tn : Int
  bef : Int
  Rs : List Rec
def Sc.len (s : Sc) : Nat := (putsL s.Rs).length
structure Sc.Ok (s : Sc) : Prop where
  num : 0 ≤ s.num
  tn : 1 ≤ s.tn
  bef : 0 ≤ s.bef ∧ s.bef ≤ 496
  some_ : s.Rs ≠ []
  all : AllOk s.Rs
  len : s.len ≤ 496
/-- Sheets one behind the other, from number n on, behind p. -/
def Chn : Int → Option Sc → List Sc → Prop
  | _, _, [] => True
  | n, p, s :: t => s.num = n ∧ (∀ x, p = some x → x.tn ≤ s.tn ∧ s.bef = (x.len : Int)) ∧ Chn (n + 1) (some s) t
def lastOr (p : Option Sc) (l : List Sc) : Option Sc := match l.getLast? with | some x => some x | none => p
theorem lastOr_nil (p : Option Sc) : lastOr p [] = p := rfl
theorem lastOr_cons (p : Option Sc) (s : Sc) (t : List Sc) : lastOr p (s :: t) = lastOr (some s) t := by
  unfold lastOr
  cases t with
  | nil => rfl
  | cons a t => rw [List.getLast?_cons_cons]; cases h : (a :: t).getLast? with
    | none => simp at h
    | some x => rfl
theorem lastOr_snoc (p : Option Sc) (l : List Sc) (s : Sc) : lastOr p (l ++ [s]) = some s := by unfold lastOr; rw [List.getLast?_append]; rfl
theorem Chn.append : ∀ {l : List Sc} {n : Int} {p : Option Sc} {r : List Sc}, Chn n p l → Chn (n + l.length) (lastOr p l) r → Chn n p (l ++ r)
  | [], n, p, r, _, h => by rw [lastOr_nil] at h; simpa using h
  | s :: t, n, p, r, h, h2 => by
    rw [lastOr_cons] at h2
    have e : n + 1 + (t.length : Int) = n + ((s :: t).length : Int) := by rw [List.length_cons]; omega
    exact ⟨h.1, h.2.1, Chn.append h.2.2 (by rw [e]; exact h2)⟩
theorem Chn.left : ∀ {l : List Sc} {n : Int} {p : Option Sc} {r : List Sc}, Chn n p (l ++ r) → Chn n p l
  | [], _, _, _, _ => trivial
  | s :: t, n, p, r, h => ⟨h.1, h.2.1, Chn.left h.2.2⟩
theorem Chn.right : ∀ {l : List Sc} {n : Int} {p : Option Sc} {r : List Sc}, Chn n p (l ++ r) → Chn (n + l.length) (lastOr p l) r
  | [], n, p, r, h => by rw [lastOr_nil]; simpa using h
  | s :: t, n, p, r, h => by
    have := Chn.right (l := t) h.2.2
    rw [lastOr_cons]
    have e : n + 1 + (t.length : Int) = n + ((s :: t).length : Int) := by rw [List.length_cons]; omega
    rw [← e]; exact this
theorem Chn.num : ∀ {l : List Sc} {n : Int} {p : Option Sc}, Chn n p l → ∀ s ∈ l, n ≤ s.num ∧ s.num < n + l.length
  | [], _, _, _, s, hs => by simp at hs
  | a :: t, n, p, h, s, hs => by
    rcases List.mem_cons.1 hs with rfl | hs
    · rw [h.1]; simp; omega
    · have := Chn.num h.2.2 s hs; simp; omega
theorem Chn.bare : ∀ {l : List Sc} {n : Int} {p : Option Sc}, Chn n p l → Chn n none l
  | [], _, _, _ => trivial
  | s :: t, n, p, h => ⟨h.1, (fun x e => by cases e), h.2.2⟩
/-- The durable sheets of a log, and what else may stand on the disk. -/
structure Dur (T N : Int) (ds : List Sc) (E : Int → Option Sc) : Prop where
  img : ∀ s ∈ ds, E (s.num % 6) = some s
  ok : ∀ s ∈ ds, s.Ok ∧ s.tn ≤ T
  chn : Chn N none ds
  few : ds.length ≤ 5
  n0 : 0 ≤ N
  sec : ∀ i s, E i = some s → s.num % 6 = i ∧ s.num ≤ N + 4 ∧ s.Ok ∧ s.tn ≤ T ∧ (N + ds.length ≤ s.num → s.tn < T)
  stop : ∀ s, E ((N + ds.length) % 6) = some s → s.num = N + ds.length → ∃ x, lastOr none ds = some x ∧ (s.tn < x.tn ∨ s.bef ≠ (x.len : Int))
/-- Sheets that are not on the disk yet. -/
def fresh (T : Int) : Int → Int → List (List Rec) → List Sc
  | _, _, [] => []
  | n, b, R :: t => ⟨n, T, b, R⟩ :: fresh T (n + 1) ((putsL R).length : Int) t
def updS (E : Int → Option Sc) (i : Int) (s : Sc) : Int → Option Sc := fun j => if j = i then some s else E j
/-- The disk behind all these are written. -/
def wrAll (E : Int → Option Sc) : List Sc → Int → Option Sc
  | [] => E
  | s :: t => wrAll (updS E (s.num % 6) s) t
theorem wrAll_out : ∀ (l : List Sc) (E : Int → Option Sc) (i : Int), (∀ s ∈ l, s.num % 6 ≠ i) → wrAll E l i = E i
  | [], _, _, _ => rfl
  | s :: t, E, i, h => by
    rw [wrAll, wrAll_out t _ i (fun x hx => h x (List.mem_cons_of_mem _ hx))]
    unfold updS
    rw [if_neg (fun e => h s (List.mem_cons_self ..) e.symm)]
theorem wrAll_in : ∀ (l : List Sc) (E : Int → Option Sc) (n : Int) (p : Option Sc), Chn n p l → l.length ≤ 6 → ∀ s ∈ l, wrAll E l (s.num % 6) = some s
  | [], _, _, _, _, _, s, hs => by simp at hs
  | a :: t, E, n, p, h, hl, s, hs => by
    rw [wrAll]
    rcases List.mem_cons.1 hs with rfl | hs
    · rw [wrAll_out t _ _ (fun x hx => by have := Chn.num h.2.2 x hx; have h1 := h.1; simp at hl; omega)]
      unfold updS; rw [if_pos rfl]
    · exact wrAll_in t _ (n + 1) (some a) h.2.2 (by simp at hl; omega) s hs
theorem wrAll_some (l : List Sc) : ∀ (E : Int → Option Sc) (i : Int) (s : Sc), wrAll E l i = some s → E i = some s ∨ (s ∈ l ∧ s.num % 6 = i) := by
  induction l with
  | nil => intro E i s h; exact .inl h
  | cons a t ih =>
    intro E i s h
    rcases ih _ i s h with h | ⟨h, h2⟩
    · unfold updS at h
      by_cases e : i = a.num % 6
      · rw [if_pos e] at h
        injection h with h
        subst h
        exact .inr ⟨List.mem_cons_self .., e.symm⟩
      · rw [if_neg e] at h; exact .inl h
    · exact .inr ⟨List.mem_cons_of_mem _ h, h2⟩
/-- What of it stays. -/
def mixK (kept : Int → Bool) (E F : Int → Option Sc) : Int → Option Sc := fun i => if kept i then F i else E i
/-- The new sheets that stay, up to the first one that does not. -/
def stay (kept : Int → Bool) : List Sc → List Sc
  | [] => []
  | s :: t => if kept (s.num % 6) then s :: stay kept t else []
theorem stay_pre (kept : Int → Bool) : ∀ l : List Sc, ∃ r, l = stay kept l ++ r ∧ (∀ s ∈ stay kept l, kept (s.num % 6) = true) ∧ (∀ s, r.head? = some s → kept (s.num % 6) = false)
  | [] => ⟨[], rfl, by simp [stay], by simp⟩
  | s :: t => by
    obtain ⟨r, h1, h2, h3⟩ := stay_pre kept t
    unfold stay
    by_cases hk : kept (s.num % 6) = true
    · rw [if_pos hk]
      refine ⟨r, by rw [List.cons_append, ← h1], fun x hx => ?_, h3⟩
      rcases List.mem_cons.1 hx with rfl | hx
      · exact hk
      · exact h2 x hx
    · rw [if_neg hk]
      exact ⟨s :: t, rfl, by simp, fun x hx => by injection hx with hx; subst hx; simpa using hk⟩
/-- THE LAW: sheets `di` stand; behind them `nw` have been written (in turn T), the first of them perhaps over a sheet `od` that was durable. Whatever stays, the sheets that are found are `di` and the first of `nw` that stayed, or, if the first did not, what was there. -/
theorem dur_next {T N : Int} {di od nw : List Sc} {E : Int → Option Sc} (kept : Int → Bool) (h : Dur T N (di ++ od) E) (hod : od.length ≤ 1) (hT : 1 ≤ T)
    (hc : Chn (N + di.length) (lastOr none di) nw) (hok : ∀ s ∈ nw, s.Ok ∧ s.tn = T) (hfew : di.length + nw.length ≤ 5)
    (hover : ∀ o, od = [o] → ∃ s t, nw = s :: t ∧ o.len < s.len) :
    ∃ ds, ds = (if stay kept nw = [] then di ++ od else di ++ stay kept nw) ∧ Dur (T + 1) N ds (mixK kept E (wrAll E nw)) ∧ ∀ i s, mixK kept E (wrAll E nw) i = some s → s.tn ≤ T := by
  refine ⟨_, rfl, ?_⟩
  obtain ⟨r, h1, h2, h3⟩ := stay_pre kept nw
  generalize hst : stay kept nw = st at *
  have hnn := Chn.num hc
  have hdl := h.few
  have hnum : ∀ s ∈ di ++ od, N ≤ s.num ∧ s.num < N + ((di ++ od).length : Int) := Chn.num h.chn
  have hdi : ∀ s ∈ di, N ≤ s.num ∧ s.num < N + (di.length : Int) := Chn.num h.chn.left
  have h0 := h.n0
  -- what is not among the new stands as it was
  have hin : ∀ s ∈ nw, wrAll E nw (s.num % 6) = some s := wrAll_in nw E _ _ hc (by omega)
  have hout : ∀ i, (∀ s ∈ nw, s.num % 6 ≠ i) → mixK kept E (wrAll E nw) i = E i := fun i hi => by
    unfold mixK
    split
    · exact wrAll_out nw E i hi
    · rfl
  have hsec : ∀ i s, mixK kept E (wrAll E nw) i = some s → E i = some s ∨ (s ∈ nw ∧ s.num % 6 = i) := fun i s hs => by
    unfold mixK at hs
    split at hs
    · exact wrAll_some nw E i s hs
    · exact .inl hs
  have hsecs : ∀ i s, mixK kept E (wrAll E nw) i = some s → s.num % 6 = i ∧ s.num ≤ N + 4 ∧ s.Ok ∧ s.tn ≤ T := fun i s hs => by
    rcases hsec i s hs with hs | ⟨hm, hi⟩
    · have := h.sec i s hs
      exact ⟨this.1, this.2.1, this.2.2.1, this.2.2.2.1⟩
    · have := hok s hm
      have := hnn s hm
      exact ⟨hi, by omega, (hok s hm).1, by omega⟩
  refine ⟨?_, fun i s hs => (hsecs i s hs).2.2.2⟩
  by_cases hse : st = []
  · rw [if_pos hse]
    have hr : nw = r := by rw [h1, hse]; rfl
    -- the first did not stay
    have hfirst : ∀ s t, nw = s :: t → kept (s.num % 6) = false := fun s t e => h3 s (by rw [← hr, e]; rfl)
    have hkeep : ∀ s ∈ di ++ od, mixK kept E (wrAll E nw) (s.num % 6) = E (s.num % 6) := fun s hs => by
      by_cases hx : ∀ x ∈ nw, x.num % 6 ≠ s.num % 6
      · exact hout _ hx
      · -- only the first of the new lies there
        have : ∃ x ∈ nw, x.num % 6 = s.num % 6 := by
          apply Classical.byContradiction
          intro hno
          exact hx (fun x hx e => hno ⟨x, hx, e⟩)
        obtain ⟨x, hx, e⟩ := this
        have a1 := hnn x hx
        have a2 := hnum s hs
        rw [List.length_append] at a2
        have hxe : x.num = s.num := by omega
        cases hnw : nw with
        | nil => rw [hnw] at hx; simp at hx
        | cons y t =>
          have b1 : y.num = N + di.length := by rw [hnw] at hc; exact hc.1
          have hyx : y.num = x.num := by omega
          have := hfirst y t hnw
          unfold mixK
          rw [← hxe, ← hyx, if_neg (by rw [this]; simp)]
    refine ⟨fun s hs => by rw [hkeep s hs]; exact h.img s hs, fun s hs => ⟨(h.ok s hs).1, by have := (h.ok s hs).2; omega⟩, h.chn, h.few, h0, fun i s hs => ⟨(hsecs i s hs).1, (hsecs i s hs).2.1, (hsecs i s hs).2.2.1, by have := (hsecs i s hs).2.2.2; omega, fun _ => by have := (hsecs i s hs).2.2.2; omega⟩, fun s hs hn => ?_⟩
    rcases hsec _ s hs with hs' | ⟨hm, hi⟩
    · exact h.stop s hs' hn
    · -- a new sheet behind the durable ones: it is the second of the new, over od
      have a1 := hnn s hm
      rw [List.length_append] at hn
      cases od with
      | nil =>
        exfalso
        cases hnw : nw with
        | nil => rw [hnw] at hm; simp at hm
        | cons y t =>
          have b1 : y.num = N + di.length := by rw [hnw] at hc; exact hc.1
          have hk := hfirst y t hnw
          rw [List.append_nil] at hs
          unfold mixK at hs
          simp only [List.length_nil] at hn
          have e : (N + (di.length : Int)) % 6 = y.num % 6 := by rw [b1]
          rw [e, hk] at hs
          rw [if_neg (by simp)] at hs
          have := h.sec _ s hs
          have hok2 := hok s hm
          have h4 := this.2.2.2.2 (by simp; omega)
          omega
      | cons o od' =>
        have hod' : od' = [] := by cases od' with | nil => rfl | cons _ _ => simp at hod
        subst hod'
        refine ⟨o, by rw [lastOr_snoc], .inr ?_⟩
        obtain ⟨y0, t0, e0, hy0⟩ := hover o rfl
        -- s is the second
        cases hnw : nw with
        | nil => rw [hnw] at hm; simp at hm
        | cons y t =>
          rw [hnw] at hm hc
          rcases List.mem_cons.1 hm with rfl | hm
          · have := hc.1; simp at hn; omega
          · cases t with
            | nil => simp at hm
            | cons u v =>
              rcases List.mem_cons.1 hm with rfl | hm
              · have c1 := (hc.2.2.2.1 y rfl).2
                rw [hnw] at e0
                injection e0 with e0 _
                subst e0
                omega
              · have c1 := Chn.num hc.2.2.2.2 s hm
                simp at hn
                omega
  · rw [if_neg hse]
    have hlen : nw.length = st.length + r.length := by rw [h1, List.length_append]
    have hcs : Chn (N + di.length) (lastOr none di) st := by rw [h1] at hc; exact hc.left
    have hmem : ∀ s ∈ st, s ∈ nw := fun s hs => by rw [h1]; exact List.mem_append_left _ hs
    have hkeep : ∀ s ∈ di, mixK kept E (wrAll E nw) (s.num % 6) = E (s.num % 6) := fun s hs => hout _ (fun x hx e => by have a1 := hnn x hx; have a2 := hdi s hs; omega)
    have himg : ∀ s ∈ st, mixK kept E (wrAll E nw) (s.num % 6) = some s := fun s hs => by
      unfold mixK
      rw [if_pos (h2 s hs)]
      exact hin s (hmem s hs)
    have hlast : ∃ x, lastOr none (di ++ st) = some x ∧ x.tn = T := by
      obtain ⟨l, x, hx⟩ : ∃ l x, st = l ++ [x] := ⟨st.dropLast, st.getLast hse, (List.dropLast_concat_getLast hse).symm⟩
      refine ⟨x, by rw [hx, ← List.append_assoc, lastOr_snoc], (hok x (hmem x (by rw [hx]; simp))).2⟩
    refine ⟨fun s hs => ?_, fun s hs => ?_, h.chn.left.append hcs, by rw [List.length_append]; omega, h0, fun i s hs => ⟨(hsecs i s hs).1, (hsecs i s hs).2.1, (hsecs i s hs).2.2.1, by have := (hsecs i s hs).2.2.2; omega, fun _ => by have := (hsecs i s hs).2.2.2; omega⟩, fun s hs hn => ?_⟩
    · rcases List.mem_append.1 hs with hs | hs
      · rw [hkeep s hs]; exact h.img s (List.mem_append_left _ hs)
      · exact himg s hs
    · rcases List.mem_append.1 hs with hs | hs
      · exact ⟨(h.ok s (List.mem_append_left _ hs)).1, by have := (h.ok s (List.mem_append_left _ hs)).2; omega⟩
      · exact ⟨(hok s (hmem s hs)).1, by have := (hok s (hmem s hs)).2; omega⟩
    · obtain ⟨x, hx, hxT⟩ := hlast
      refine ⟨x, hx, .inl ?_⟩
      rw [hxT]
      rw [List.length_append] at hn hs
      rcases hsec _ s hs with hs' | ⟨hm, hi⟩
      · have hpos : 0 < st.length := List.length_pos_iff.2 hse
        have := h.sec _ s hs'
        exact this.2.2.2.2 (by rw [List.length_append]; omega)
      · -- the next new one did not stay
        exfalso
        rw [h1] at hm
        rcases List.mem_append.1 hm with hm | hm
        · have := Chn.num hcs s hm; omega
        · cases r with
          | nil => simp at hm
          | cons y t =>
            have hcr : Chn (N + di.length + st.length) (lastOr (lastOr none di) st) (y :: t) := by rw [h1] at hc; exact hc.right
            have hk := h3 y rfl
            have b1 := hcr.1
            rcases List.mem_cons.1 hm with rfl | hm2
            · unfold mixK at hs
              have e : (N + ((di.length + st.length : Nat) : Int)) % 6 = s.num % 6 := by rw [hn]
              rw [e, hk, if_neg (by simp)] at hs
              have := h.sec _ s hs
              have hp : 0 < st.length := List.length_pos_iff.2 hse
              have h5 := this.2.2.2.2 (by rw [List.length_append]; omega)
              have h6 := (hok s (by rw [h1]; simp)).2
              omega
            · have := Chn.num hcr.2.2 s hm2
              omega
/-- All of it stays, and the disk goes on. -/
theorem dur_all {T N : Int} {di od nw : List Sc} {E : Int → Option Sc} (h : Dur T N (di ++ od) E) (hod : od.length ≤ nw.length)
    (hc : Chn (N + di.length) (lastOr none di) nw) (hok : ∀ s ∈ nw, s.Ok ∧ s.tn = T) (hfew : di.length + nw.length ≤ 5) (hne : nw ≠ []) : Dur T N (di ++ nw) (wrAll E nw) := by
  have hnn := Chn.num hc
  have hdi : ∀ s ∈ di, N ≤ s.num ∧ s.num < N + (di.length : Int) := Chn.num h.chn.left
  have h0 := h.n0
  have hsec := wrAll_some nw E
  refine ⟨fun s hs => ?_, fun s hs => ?_, h.chn.left.append hc, by rw [List.length_append]; omega, h0, fun i s hs => ?_, fun s hs hn => ?_⟩
  · rcases List.mem_append.1 hs with hs | hs
    · rw [wrAll_out nw E _ (fun x hx e => by have a1 := hnn x hx; have a2 := hdi s hs; omega)]
      exact h.img s (List.mem_append_left _ hs)
    · exact wrAll_in nw E _ _ hc (by omega) s hs
  · rcases List.mem_append.1 hs with hs | hs
    · exact h.ok s (List.mem_append_left _ hs)
    · exact ⟨(hok s hs).1, by have := (hok s hs).2; omega⟩
  · rw [List.length_append]
    rcases hsec i s hs with hs | ⟨hm, hi⟩
    · have := h.sec i s hs
      exact ⟨this.1, this.2.1, this.2.2.1, this.2.2.2.1, fun hx => this.2.2.2.2 (by rw [List.length_append]; omega)⟩
    · have a1 := hnn s hm
      exact ⟨hi, by omega, (hok s hm).1, by have := (hok s hm).2; omega, fun hx => by omega⟩
  · obtain ⟨l, x, hx⟩ : ∃ l x, nw = l ++ [x] := ⟨nw.dropLast, nw.getLast hne, (List.dropLast_concat_getLast hne).symm⟩
    refine ⟨x, by rw [hx, ← List.append_assoc, lastOr_snoc], .inl ?_⟩
    rw [(hok x (by rw [hx]; simp)).2]
    rw [List.length_append] at hn hs
    rcases hsec _ s hs with hs' | ⟨hm, hi⟩
    · exact (h.sec _ s hs').2.2.2.2 (by rw [List.length_append]; omega)
    · have := hnn s hm; omega
/-- Sheets that are let go of at the front. -/
theorem dur_trim {T N : Int} {a b : List Sc} {E : Int → Option Sc} (h : Dur T N (a ++ b) E) (hb : b ≠ []) : Dur T (N + a.length) b E := by
  have h0 := h.n0
  have hl := h.few
  rw [List.length_append] at hl
  refine ⟨fun s hs => h.img s (List.mem_append_right _ hs), fun s hs => h.ok s (List.mem_append_right _ hs), h.chn.right.bare, by omega, by omega, fun i s hs => ?_, fun s hs hn => ?_⟩
  · have := h.sec i s hs
    exact ⟨this.1, by omega, this.2.2.1, this.2.2.2.1, fun hx => this.2.2.2.2 (by rw [List.length_append]; omega)⟩
  · have e : N + (a.length : Int) + (b.length : Int) = N + ((a ++ b).length : Int) := by rw [List.length_append]; omega
    rw [e] at hs hn
    obtain ⟨x, hx, hx2⟩ := h.stop s hs hn
    refine ⟨x, ?_, hx2⟩
    rw [← hx]
    unfold lastOr
    rw [List.getLast?_append]
    cases hg : b.getLast? with
    | none => simp at hg; exact absurd hg hb
    | some y => rfl
end Go.Proofs.YtfheikmjjijdpaaDoor

