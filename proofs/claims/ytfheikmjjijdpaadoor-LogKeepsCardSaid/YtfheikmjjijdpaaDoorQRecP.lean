/-
  Records, plain: which are right, their bytes, and what is got of bytes; what is put is got, what is got is put. No program in sight.
-/
import Derived.Test.YtfheikmjjijdpaaDoorQBeP
namespace Go.Proofs.YtfheikmjjijdpaaDoor
set_option linter.unusedVariables false

/-- A record. -/
structure Rec where
  lsn : Int
  work : Int
  prev : Int
  next : Int
  kind : Int
  page : Int
  key : List Int
  old : List Int
  new : List Int
  dirty : List (Int × Int)
  opn : List (Int × Int)
def Rec.zero : Rec := ⟨0, 0, 0, 0, 0, 0, [], [], [], [], []⟩

def pagedB (n : Int) : Bool := decide (0 ≤ n) && decide (n < 8192)
/-- Do all places below n meet P? -/
def allUp (n : Nat) (P : Nat → Bool) : Bool := (List.range n).all P
theorem allUp_succ (n : Nat) (P : Nat → Bool) : allUp (n + 1) P = (allUp n P && P n) := by simp [allUp, List.range_succ]
theorem allUp_iff {n : Nat} {P : Nat → Bool} : allUp n P = true ↔ ∀ i, i < n → P i = true := by simp [allUp]
theorem allUp_not {n i : Nat} {P : Nat → Bool} (hi : i < n) (h : P i = false) : allUp n P = false := by
  cases ha : allUp n P with
  | false => rfl
  | true => rw [allUp_iff.1 ha i hi] at h; cases h
def fstAt (l : List (Int × Int)) (i : Nat) : Int := (l.getD i (0, 0)).1
def sndAt (l : List (Int × Int)) (i : Nat) : Int := (l.getD i (0, 0)).2
/-- Do a list's first numbers rise, from one on? -/
def riseAt (least : Int) (l : List (Int × Int)) (i : Nat) : Bool := decide (least ≤ fstAt l i) && (decide (i = 0) || decide (fstAt l (i - 1) < fstAt l i))
def dirtyAt (l : List (Int × Int)) (i : Nat) : Bool := decide (1 ≤ sndAt l i) && pagedB (fstAt l i)
def openAt (l : List (Int × Int)) (i : Nat) : Bool := decide (1 ≤ sndAt l i)
def riseB (least : Int) (l : List (Int × Int)) : Bool := allUp l.length (riseAt least l)
def markB (R : Rec) : Bool := (allUp R.dirty.length (dirtyAt R.dirty) && allUp R.opn.length (openAt R.opn)) && ((riseB 0 R.dirty && decide (R.dirty.length ≤ 32)) && (riseB 1 R.opn && decide (R.opn.length ≤ 8)))
def turnB (R : Rec) : Bool := decide (0 < R.key.length) && decide (R.key.length ≤ 40) && decide (0 < R.old.length + R.new.length) && decide (R.key.length + R.old.length ≤ 220) && decide (R.key.length + R.new.length ≤ 220)
def bareB (R : Rec) : Bool := decide (R.key.length + R.old.length + R.new.length = 0)
def kindB (R : Rec) : Bool :=
  if R.kind = 1 then decide (R.next = 0) && pagedB R.page && turnB R
  else if R.kind = 2 then decide (0 ≤ R.next) && pagedB R.page && turnB R
  else if R.kind = 3 ∨ R.kind = 4 then decide (R.next = 0) && decide (R.page = 0) && bareB R
  else if R.kind = 6 then pagedB R.page && decide (0 < R.next) && decide (R.next < 8192) && bareB R
  else false
def rightR (R : Rec) : Bool :=
  if R.kind = 5 then decide (R.work = 0) && decide (R.prev = 0) && decide (R.next = 0) && decide (R.page = 0) && bareB R && markB R
  else decide (1 ≤ R.work) && decide (0 ≤ R.prev) && decide (R.dirty.length + R.opn.length = 0) && kindB R

/-! Its bytes. -/
def rowL (l : List Int) : List Int := (l.length : Int) :: l
def pairL (a : Nat) (p : Int × Int) : List Int := be a p.1 ++ be 8 p.2
def listL (a : Nat) (l : List (Int × Int)) : List Int := be 2 l.length ++ l.flatMap (pairL a)
def turnL (R : Rec) : List Int := rowL R.key ++ (rowL R.old ++ rowL R.new)
def restL (R : Rec) : List Int :=
  if R.kind = 5 then listL 2 R.dirty ++ listL 8 R.opn
  else be 8 R.work ++ (be 8 R.prev ++
    (if R.kind = 1 then be 2 R.page ++ turnL R
     else if R.kind = 2 then be 8 R.next ++ (be 2 R.page ++ turnL R)
     else if R.kind = 6 then be 2 R.page ++ be 2 R.next
     else []))
def bodyL (R : Rec) : List Int := R.kind :: restL R
def putR (R : Rec) : List Int := if rightR R then be 2 (bodyL R).length ++ bodyL R else []

/-! What is got. -/
def pairS (a : Nat) (s : Option (List Int)) : (Int × Int) × Option (List Int) := (((numS a s).1, (numS 8 (numS a s).2).1), (numS 8 (numS a s).2).2)
def listS (a : Nat) : Nat → Option (List Int) → List (Int × Int) × Option (List Int)
  | 0, s => ([], s)
  | _ + 1, none => ([], none)
  | n + 1, some zs => ((pairS a (some zs)).1 :: (listS a n (pairS a (some zs)).2).1, (listS a n (pairS a (some zs)).2).2)
def listN (a : Nat) (s : Option (List Int)) : List (Int × Int) × Option (List Int) := listS a (numS 2 s).1.toNat (numS 2 s).2
def markS (s : Option (List Int)) : Rec × Option (List Int) := (⟨0, 0, 0, 0, 5, 0, [], [], [], (listN 2 s).1, (listN 8 (listN 2 s).2).1⟩, (listN 8 (listN 2 s).2).2)
def turnS (work prev next page kind : Int) (s : Option (List Int)) : Rec × Option (List Int) :=
  (⟨0, work, prev, next, kind, page, (rowS s).1, (rowS (rowS s).2).1, (rowS (rowS (rowS s).2).2).1, [], []⟩, (rowS (rowS (rowS s).2).2).2)
def onS (kind work prev : Int) (s : Option (List Int)) : Rec × Option (List Int) :=
  if kind = 1 then turnS work prev 0 (numS 2 s).1 1 (numS 2 s).2
  else if kind = 2 then turnS work prev (numS 8 s).1 (numS 2 (numS 8 s).2).1 2 (numS 2 (numS 8 s).2).2
  else if kind = 6 then (⟨0, work, prev, (numS 2 (numS 2 s).2).1, 6, (numS 2 s).1, [], [], [], [], []⟩, (numS 2 (numS 2 s).2).2)
  else (⟨0, work, prev, 0, kind, 0, [], [], [], [], []⟩, s)
def restS (kind : Int) (s : Option (List Int)) : Rec × Option (List Int) :=
  if kind = 5 then markS s else onS kind (numS 8 s).1 (numS 8 (numS 8 s).2).1 (numS 8 (numS 8 s).2).2
def finR (n : Nat) (x : Rec × Option (List Int)) : Option (Rec × Nat) :=
  match x.2 with
  | some [] => if rightR x.1 then some (x.1, 2 + n) else none
  | _ => none
/-- The first so many of a reader's bytes, as a reader of their own. -/
def inS (n : Nat) (s : Option (List Int)) : Option (List Int) := (takeS n s).2.map fun _ => (takeS n s).1
def getS (s : Option (List Int)) (n : Nat) : Option (Rec × Nat) := finR n (restS (numS 1 (inS n s)).1 (numS 1 (inS n s)).2)
def getR (zs : List Int) : Option (Rec × Nat) := getS (numS 2 (some zs)).2 (numS 2 (some zs)).1.toNat

/-! What is put is got. -/
theorem inS_app (l r : List Int) : inS l.length (some (l ++ r)) = some l := by
  unfold inS
  rw [takeS_app]
  rfl
theorem pairS_app (a : Nat) (ha : a ≤ 8) (p : Int × Int) (r : List Int) (h0 : 0 ≤ p.1) (h1 : p.1 < 2 ^ (8 * a)) (h2 : p.1 < 9223372036854775808) (k0 : 0 ≤ p.2) (k1 : p.2 < 9223372036854775808) : pairS a (some (pairL a p ++ r)) = (p, some r) := by
  unfold pairS pairL
  rw [List.append_assoc, numS_app a p.1 _ h0 h1 h2]
  simp only
  rw [numS_app 8 p.2 r k0 (by simp; omega) k1]
theorem listS_app (a : Nat) (ha : a ≤ 8) (l : List (Int × Int)) (r : List Int) (h : ∀ p ∈ l, (0 ≤ p.1 ∧ p.1 < 2 ^ (8 * a) ∧ p.1 < 9223372036854775808) ∧ 0 ≤ p.2 ∧ p.2 < 9223372036854775808) : listS a l.length (some (l.flatMap (pairL a) ++ r)) = (l, some r) := by
  induction l with
  | nil => rfl
  | cons p l ih =>
    obtain ⟨⟨h0, h1, h2⟩, k0, k1⟩ := h p (by simp)
    rw [List.flatMap_cons, List.append_assoc]
    show ((pairS a _).1 :: (listS a l.length (pairS a _).2).1, (listS a l.length (pairS a _).2).2) = _
    rw [pairS_app a ha p _ h0 h1 h2 k0 k1]
    simp only
    rw [ih (fun p hp => h p (by simp [hp]))]
theorem listN_app (a : Nat) (ha : a ≤ 8) (l : List (Int × Int)) (r : List Int) (hl : l.length < 65536) (h : ∀ p ∈ l, (0 ≤ p.1 ∧ p.1 < 2 ^ (8 * a) ∧ p.1 < 9223372036854775808) ∧ 0 ≤ p.2 ∧ p.2 < 9223372036854775808) : listN a (some (listL a l ++ r)) = (l, some r) := by
  unfold listN listL
  rw [List.append_assoc, numS_app 2 l.length _ (by omega) (by simp; omega) (by omega)]
  simp only
  rw [Int.toNat_natCast]
  exact listS_app a ha l r h
theorem getD_of_mem {l : List (Int × Int)} {p : Int × Int} (h : p ∈ l) : ∃ i, i < l.length ∧ l.getD i (0, 0) = p := by
  obtain ⟨i, hi, e⟩ := List.getElem_of_mem h
  exact ⟨i, hi, by simp [List.getD_eq_getElem?_getD, hi, e]⟩
theorem mem_dirty {l : List (Int × Int)} (h : allUp l.length (dirtyAt l) = true) : ∀ p ∈ l, 0 ≤ p.1 ∧ p.1 < 8192 ∧ 1 ≤ p.2 := by
  intro p hp
  obtain ⟨i, hi, e⟩ := getD_of_mem hp
  have := allUp_iff.1 h i hi
  unfold dirtyAt pagedB fstAt sndAt at this
  rw [e] at this
  simp at this
  omega
theorem mem_open {l : List (Int × Int)} (h : allUp l.length (openAt l) = true) (k : riseB 1 l = true) : ∀ p ∈ l, 1 ≤ p.1 ∧ 1 ≤ p.2 := by
  intro p hp
  obtain ⟨i, hi, e⟩ := getD_of_mem hp
  have h1 := allUp_iff.1 h i hi
  have h2 := allUp_iff.1 k i hi
  unfold openAt sndAt at h1
  unfold riseAt fstAt at h2
  rw [e] at h1 h2
  simp only [Bool.and_eq_true, decide_eq_true_eq] at h1 h2
  exact ⟨h2.1, h1⟩
/-- Are a record's numbers int64s? -/
structure Rec.Ok (R : Rec) : Prop where
  lsn : I64 R.lsn
  work : I64 R.work
  prev : I64 R.prev
  next : I64 R.next
  kind : isByte R.kind
  page : I64 R.page
  key : ∀ z ∈ R.key, isByte z
  old : ∀ z ∈ R.old, isByte z
  new : ∀ z ∈ R.new, isByte z
  dirty : ∀ p ∈ R.dirty, I64 p.1 ∧ I64 p.2
  opn : ∀ p ∈ R.opn, I64 p.1 ∧ I64 p.2
theorem numS_one (z : Int) (r : List Int) (h : isByte z) : numS 1 (some (z :: r)) = (z, some r) := by
  unfold isByte at h
  have h1 : be 1 z = [z] := by
    unfold be beTo beAt
    simp
    omega
  have := numS_app 1 z r h.1 (by simp; omega) (by omega)
  rw [h1] at this
  exact this
def Rec.bare (R : Rec) : Rec := { R with lsn := 0 }
theorem turnB_len {R : Rec} (h : turnB R = true) : 0 < R.key.length ∧ R.key.length ≤ 40 ∧ 0 < R.old.length + R.new.length ∧ R.key.length + R.old.length ≤ 220 ∧ R.key.length + R.new.length ≤ 220 := by
  unfold turnB at h
  simp only [Bool.and_eq_true, decide_eq_true_eq] at h
  exact ⟨h.1.1.1.1, h.1.1.1.2, h.1.1.2, h.1.2, h.2⟩
theorem bareB_nil {R : Rec} (h : bareB R = true) : R.key = [] ∧ R.old = [] ∧ R.new = [] := by
  unfold bareB at h
  simp only [decide_eq_true_eq] at h
  exact ⟨List.length_eq_zero_iff.1 (by omega), List.length_eq_zero_iff.1 (by omega), List.length_eq_zero_iff.1 (by omega)⟩
theorem pagedB_in {n : Int} (h : pagedB n = true) : 0 ≤ n ∧ n < 8192 := by
  unfold pagedB at h
  simpa using h
theorem turnS_app (R : Rec) (h : turnB R = true) (work prev next page kind : Int) : turnS work prev next page kind (some (turnL R)) = (⟨0, work, prev, next, kind, page, R.key, R.old, R.new, [], []⟩, some []) := by
  have hl := turnB_len h
  have h1 := rowS_app R.key (rowL R.old ++ rowL R.new) (by omega)
  have h2 := rowS_app R.old (rowL R.new) (by omega)
  have h3 := rowS_app R.new [] (by omega)
  rw [List.append_nil] at h3
  unfold turnS turnL
  change rowS (some (rowL R.key ++ (rowL R.old ++ rowL R.new))) = _ at h1
  change rowS (some (rowL R.old ++ rowL R.new)) = _ at h2
  change rowS (some (rowL R.new)) = _ at h3
  rw [h1]
  simp only
  rw [h2]
  simp only
  rw [h3]
theorem rest_put {R : Rec} (hr : rightR R = true) (hk : R.Ok) : restS R.kind (some (restL R)) = (R.bare, some []) := by
  obtain ⟨lsn, work, prev, next, kind, page, key, old, new, dirty, opn⟩ := R
  unfold rightR at hr
  unfold restS restL
  simp only [Rec.bare] at *
  by_cases h5 : kind = 5
  · rw [if_pos h5] at hr ⊢
    rw [if_pos h5]
    simp only [Bool.and_eq_true, decide_eq_true_eq] at hr
    obtain ⟨⟨⟨⟨⟨rfl, rfl⟩, rfl⟩, rfl⟩, hb⟩, hm⟩ := hr
    obtain ⟨hb1, hb2, hb3⟩ := bareB_nil hb
    unfold markB at hm
    simp only [Bool.and_eq_true, decide_eq_true_eq] at hm hb1 hb2 hb3
    subst hb1 hb2 hb3
    obtain ⟨⟨hd, ho⟩, ⟨_, hdl⟩, hro, hol⟩ := hm
    have hdk := hk.dirty
    have hok := hk.opn
    simp only at hdk hok
    unfold I64 at hdk hok
    have e1 := listN_app 2 (by omega) dirty (listL 8 opn) (by omega) (fun p hp => by
      have a := mem_dirty hd p hp
      have b := hdk p hp
      refine ⟨⟨a.1, ?_, by omega⟩, by omega, by omega⟩
      show p.1 < 65536
      omega)
    have e2 := listN_app 8 (by omega) opn [] (by omega) (fun p hp => by
      have a := mem_open ho hro p hp
      have b := hok p hp
      refine ⟨⟨by omega, ?_, by omega⟩, by omega, by omega⟩
      show p.1 < 18446744073709551616
      omega)
    rw [List.append_nil] at e2
    unfold markS
    rw [e1]
    simp only
    rw [e2, h5]
  · rw [if_neg h5] at hr ⊢
    rw [if_neg h5]
    simp only [Bool.and_eq_true, decide_eq_true_eq] at hr
    obtain ⟨⟨⟨hw, hp⟩, hdo⟩, hkd⟩ := hr
    obtain rfl : dirty = [] := List.length_eq_zero_iff.1 (by omega)
    obtain rfl : opn = [] := List.length_eq_zero_iff.1 (by omega)
    have hwk := hk.work
    have hpk := hk.prev
    have hnk := hk.next
    unfold I64 at hwk hpk hnk
    simp only at hwk hpk hnk
    rw [numS_app 8 work _ (by omega) (by show work < 18446744073709551616; omega) (by omega)]
    simp only
    rw [numS_app 8 prev _ (by omega) (by show prev < 18446744073709551616; omega) (by omega)]
    simp only
    unfold kindB at hkd
    unfold onS
    simp only at hkd
    by_cases h1 : kind = 1
    · rw [if_pos h1] at hkd ⊢
      rw [if_pos h1]
      simp only [Bool.and_eq_true, decide_eq_true_eq] at hkd
      obtain ⟨⟨hn, hpg⟩, ht⟩ := hkd
      have hpg := pagedB_in hpg
      rw [numS_app 2 page _ (by omega) (by show page < 65536; omega) (by omega)]
      simp only
      rw [turnS_app _ ht, hn, h1]
    · rw [if_neg h1] at hkd ⊢
      rw [if_neg h1]
      by_cases h2 : kind = 2
      · rw [if_pos h2] at hkd ⊢
        rw [if_pos h2]
        simp only [Bool.and_eq_true, decide_eq_true_eq] at hkd
        obtain ⟨⟨hn, hpg⟩, ht⟩ := hkd
        have hpg := pagedB_in hpg
        rw [numS_app 8 next _ (by omega) (by show next < 18446744073709551616; omega) (by omega)]
        simp only
        rw [numS_app 2 page _ (by omega) (by show page < 65536; omega) (by omega)]
        simp only
        rw [turnS_app _ ht, h2]
      · rw [if_neg h2] at hkd ⊢
        rw [if_neg h2]
        by_cases h34 : kind = 3 ∨ kind = 4
        · rw [if_pos h34] at hkd
          rw [if_neg (by omega), if_neg (by omega)]
          simp only [Bool.and_eq_true, decide_eq_true_eq] at hkd
          obtain ⟨⟨rfl, rfl⟩, hb⟩ := hkd
          obtain ⟨hb1, hb2, hb3⟩ := bareB_nil hb
          simp only at hb1 hb2 hb3
          subst hb1 hb2 hb3
          rfl
        · rw [if_neg h34] at hkd
          by_cases h6 : kind = 6
          · rw [if_pos h6] at hkd ⊢
            rw [if_pos h6]
            simp only [Bool.and_eq_true, decide_eq_true_eq] at hkd
            obtain ⟨⟨⟨hpg, hn0⟩, hn1⟩, hb⟩ := hkd
            have hpg := pagedB_in hpg
            obtain ⟨hb1, hb2, hb3⟩ := bareB_nil hb
            simp only at hb1 hb2 hb3
            subst hb1 hb2 hb3
            rw [numS_app 2 page _ (by omega) (by show page < 65536; omega) (by omega)]
            simp only
            have e3 := numS_app 2 next [] (by omega) (by show next < 65536; omega) (by omega)
            rw [List.append_nil] at e3
            rw [e3, h6]
          · rw [if_neg h6] at hkd
            cases hkd
theorem flat_le (a : Nat) (l : List (Int × Int)) : (l.flatMap (pairL a)).length = (a + 8) * l.length := by
  induction l with
  | nil => rfl
  | cons p l ih => rw [List.flatMap_cons, List.length_append, ih, List.length_cons, pairL, List.length_append, be_length, be_length, Nat.mul_add]; omega
theorem rowL_length (l : List Int) : (rowL l).length = l.length + 1 := rfl
theorem body_len {R : Rec} (hr : rightR R = true) : (bodyL R).length ≤ 1000 := by
  obtain ⟨lsn, work, prev, next, kind, page, key, old, new, dirty, opn⟩ := R
  unfold bodyL restL
  unfold rightR at hr
  simp only at *
  rw [List.length_cons]
  by_cases h5 : kind = 5
  · rw [if_pos h5] at hr ⊢
    simp only [Bool.and_eq_true, decide_eq_true_eq] at hr
    have hm := hr.2
    unfold markB at hm
    simp only [Bool.and_eq_true, decide_eq_true_eq] at hm
    unfold listL
    simp only [List.length_append, be_length, flat_le]
    omega
  · rw [if_neg h5] at hr ⊢
    simp only [Bool.and_eq_true, decide_eq_true_eq] at hr
    have hkd := hr.2
    unfold kindB at hkd
    simp only at hkd
    simp only [List.length_append, be_length]
    by_cases h1 : kind = 1
    · rw [if_pos h1] at hkd ⊢
      simp only [Bool.and_eq_true, decide_eq_true_eq] at hkd
      have ht := turnB_len hkd.2
      simp only at ht
      simp only [List.length_append, be_length, turnL, rowL_length]
      omega
    · rw [if_neg h1] at hkd ⊢
      by_cases h2 : kind = 2
      · rw [if_pos h2] at hkd ⊢
        simp only [Bool.and_eq_true, decide_eq_true_eq] at hkd
        have ht := turnB_len hkd.2
        simp only at ht
        simp only [List.length_append, be_length, turnL, rowL_length]
        omega
      · rw [if_neg h2]
        split
        · simp only [List.length_append, be_length]; omega
        · simp
theorem get_put {R : Rec} (hr : rightR R = true) (hk : R.Ok) (more : List Int) : getR (putR R ++ more) = some (R.bare, (putR R).length) := by
  have hl := body_len hr
  unfold putR
  rw [if_pos hr, List.append_assoc]
  unfold getR
  rw [numS_app 2 (bodyL R).length _ (by omega) (by show ((bodyL R).length : Int) < 65536; omega) (by omega)]
  simp only
  rw [Int.toNat_natCast]
  unfold getS
  rw [inS_app]
  unfold bodyL
  rw [numS_one _ _ hk.kind]
  simp only
  rw [rest_put hr hk]
  have hrb : rightR R.bare = rightR R := rfl
  unfold finR
  simp only
  rw [hrb, if_pos hr, List.length_append, be_length]

/-! What is got is put. -/
def BytesS (s : Option (List Int)) : Prop := ∀ ys, s = some ys → ∀ y ∈ ys, isByte y
theorem BytesS.of {l r : List Int} {s : Option (List Int)} (h : BytesS s) (e : s = some (l ++ r)) : BytesS (some r) := fun ys e' y hy => by
  injection e' with e'
  subst e'
  exact h _ e y (by simp [hy])
theorem takeS_fall {n : Nat} {s : Option (List Int)} {zs : List Int} (h : (takeS n s).2 = some zs) : ∃ l, s = some (l ++ zs) ∧ l.length = n ∧ takeS n s = (l, some zs) := by
  obtain ⟨e, hl⟩ := takeS_eq (n := n) (s := s) (l := (takeS n s).1) (zs := zs) (by rw [← h])
  exact ⟨_, e, hl, by rw [← h]⟩
theorem numS_fall {k : Nat} {s : Option (List Int)} {zs : List Int} (hk : k ≤ 8) (hb : BytesS s) (h : (numS k s).2 = some zs) : s = some (be k (numS k s).1 ++ zs) ∧ I64 (numS k s).1 ∧ (k ≤ 7 → 0 ≤ (numS k s).1 ∧ (numS k s).1 < 2 ^ (8 * k)) := numS_eq hk hb (by rw [← h])
theorem pairS_fall {a : Nat} {s : Option (List Int)} {zs : List Int} (ha : a ≤ 8) (hb : BytesS s) (h : (pairS a s).2 = some zs) : s = some (pairL a (pairS a s).1 ++ zs) ∧ I64 (pairS a s).1.1 ∧ I64 (pairS a s).1.2 := by
  unfold pairS at h ⊢
  simp only at h ⊢
  cases hm : (numS a s).2 with
  | none => rw [hm] at h; cases h
  | some ys =>
    obtain ⟨e1, i1, _⟩ := numS_fall ha hb hm
    have hb2 : BytesS (some ys) := hb.of e1
    rw [hm] at h
    obtain ⟨e2, i2, _⟩ := numS_fall (by omega) hb2 h
    refine ⟨e1.trans ?_, i1, i2⟩
    unfold pairL
    injection e2 with e2
    rw [List.append_assoc, ← e2]
theorem listS_fall {a : Nat} (ha : a ≤ 8) : ∀ (n : Nat) {s : Option (List Int)} {zs : List Int}, BytesS s → (listS a n s).2 = some zs → s = some ((listS a n s).1.flatMap (pairL a) ++ zs) ∧ (listS a n s).1.length = n ∧ ∀ p ∈ (listS a n s).1, I64 p.1 ∧ I64 p.2
  | 0, s, zs, _, h => ⟨h, rfl, fun _ hp => by cases hp⟩
  | n + 1, none, zs, _, h => by cases h
  | n + 1, some ys, zs, hb, h => by
    change (listS a n (pairS a (some ys)).2).2 = some zs at h
    show some ys = some (((pairS a (some ys)).1 :: (listS a n (pairS a (some ys)).2).1).flatMap (pairL a) ++ zs) ∧ ((pairS a (some ys)).1 :: (listS a n (pairS a (some ys)).2).1).length = n + 1 ∧ ∀ p ∈ (pairS a (some ys)).1 :: (listS a n (pairS a (some ys)).2).1, I64 p.1 ∧ I64 p.2
    cases hm : (pairS a (some ys)).2 with
    | none =>
      rw [hm] at h
      cases n with
      | zero => cases h
      | succ n => cases h
    | some xs =>
      obtain ⟨e1, i1, i2⟩ := pairS_fall ha hb hm
      have hb2 : BytesS (some xs) := hb.of e1
      rw [hm] at h
      obtain ⟨e2, hl, hi⟩ := listS_fall ha n hb2 h
      refine ⟨?_, by rw [List.length_cons, hl], fun p hp => ?_⟩
      · rw [List.flatMap_cons, List.append_assoc]
        refine e1.trans ?_
        injection e2 with e2
        rw [← e2]
      · rcases List.mem_cons.1 hp with rfl | hp
        · exact ⟨i1, i2⟩
        · exact hi p hp
theorem listN_fall {a : Nat} {s : Option (List Int)} {zs : List Int} (ha : a ≤ 8) (hb : BytesS s) (h : (listN a s).2 = some zs) : s = some (listL a (listN a s).1 ++ zs) ∧ ∀ p ∈ (listN a s).1, I64 p.1 ∧ I64 p.2 := by
  unfold listN at h ⊢
  cases hm : (numS 2 s).2 with
  | none =>
    rw [hm] at h
    generalize (numS 2 s).1.toNat = k at h
    cases k with
    | zero => cases h
    | succ n => cases h
  | some ys =>
    obtain ⟨e1, i1, h7⟩ := numS_fall (by omega) hb hm
    have h7 := h7 (by omega)
    rw [hm] at h
    obtain ⟨e2, hl, hi⟩ := listS_fall ha _ (hb.of e1) h
    refine ⟨?_, hi⟩
    unfold listL
    rw [hl, Int.toNat_of_nonneg h7.1, List.append_assoc]
    refine e1.trans ?_
    injection e2 with e2
    rw [← e2]
end Go.Proofs.YtfheikmjjijdpaaDoor

