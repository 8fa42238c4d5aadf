/-
  What ask.Put's loop keeps: the command, the bytes so far in their box, the iterator. No condition: laws over any world.
-/
import Derived.Test.YtijmfglgeaaoaaaGreatDoorPAskU
namespace Go.Proofs.YtijmfglgeaaoaaaGreatDoor
open Go.RowKit Go.Maps
set_option linter.unusedVariables false
set_option linter.unusedSimpArgs false

theorem code_put_any (x : List UInt8) (w : World) (h : strOk x) : Calls Tryz.prog 45 #[.string ⟨x.toArray⟩] w (PutPost (putL x) w) := put_any (baOf x) w (by
  show x.toArray.size ≤ _
  unfold strOk at h
  simpa using h)
theorem putL_code {x : List UInt8} (h : codeL x = true) : 0 < (putL x).length ∧ (putL x).length ≤ 13 := by
  rw [putL_ok (codeL_putOk h), List.length_cons, ints_length]
  have := codeL_len h
  omega
theorem flat_len {α : Type} (g : α → List Int) (b : Nat) : ∀ l : List α, (∀ x ∈ l, (g x).length ≤ b) → (l.flatMap g).length ≤ l.length * b
  | [], _ => by simp
  | x :: l, h => by
    have h1 := h x (by simp)
    have h2 := flat_len g b l (fun y hy => h y (by simp [hy]))
    rw [List.flatMap_cons, List.length_append, List.length_cons, Nat.add_mul]
    omega
def encP (p : List UInt8 × Int) : List Int := putL p.1 ++ be 8 p.2
theorem encF_len {a : AskV} {c : Nat} (h : okF a c = true) : (encF a c).length ≤ 200 := by
  unfold encF
  by_cases h1 : c = 105
  · subst h1; rw [if_pos rfl]; have := (putL_code (show codeL a.item = true from h)).2; omega
  rw [if_neg h1]
  by_cases h2 : c = 113
  · subst h2; rw [if_pos rfl, be_length]; omega
  rw [if_neg h2]
  by_cases h3 : c = 100
  · subst h3; rw [if_pos rfl, be_length]; omega
  rw [if_neg h3]
  by_cases h4 : c = 108
  · subst h4; rw [if_pos rfl, be_length]; omega
  rw [if_neg h4]
  by_cases h5 : c = 114
  · subst h5; rw [if_pos rfl, be_length]; omega
  rw [if_neg h5]
  by_cases h6 : c = 116
  · subst h6; rw [if_pos rfl, be_length]; omega
  rw [if_neg h6]
  by_cases h7 : c = 110
  · subst h7; rw [if_pos rfl, be_length]; omega
  rw [if_neg h7]
  by_cases h8 : c = 112
  · subst h8
    rw [if_pos rfl]
    have hp := partsB_mem (show partsB a.parts = true from h)
    have := flat_len (fun p : List UInt8 × Int => putL p.1 ++ be 8 p.2) 21 a.parts (fun p hpm => by
      have := (putL_code (hp.2.2 p hpm).1).2
      rw [List.length_append, be_length]
      omega)
    rw [List.length_append, be_length]
    omega
  rw [if_neg h8]
  by_cases h9 : c = 111
  · subst h9
    rw [if_pos rfl]
    have hp := othersB_mem (show othersB a.others a.item = true from h)
    have := flat_len putL 13 a.others (fun p hpm => (putL_code (hp.2 p hpm)).2)
    rw [List.length_append, be_length]
    omega
  rw [if_neg h9]
  simp
def headA (a : AskV) : List Int := be 1 a.kind ++ be 8 a.request
theorem bodyA_eq {a : AskV} {f : List Nat} (h : fieldsK a.kind = some f) : bodyA a = headA a ++ f.flatMap (encF a) := by
  unfold bodyA headA
  rw [h, List.append_assoc]
  rfl
theorem so_far_len {a : AskV} {f : List Nat} (hf : f.length ≤ 4) (h : ∀ c ∈ f, okF a c = true) (p : Nat) : (headA a ++ (f.take p).flatMap (encF a)).length ≤ 1000 := by
  have h1 := flat_len (encF a) 200 (f.take p) (fun c hc => encF_len (h c (List.mem_of_mem_take hc)))
  have h2 : (f.take p).length ≤ 4 := by rw [List.length_take]; omega
  unfold headA
  rw [List.length_append, List.length_append, be_length, be_length]
  omega
/-- What Put's loop keeps. -/
structure PutW (a : AskV) (S : AskS) (f : List Nat) (w : World) (ba bo bi pos : Nat) (A : Option Addr) (c : Nat) (zs : List Int) (W : World) : Prop where
  aa : AskAt W ba a S
  box : Blk W bo 22 #[.slice A zs.length c]
  own : OwnV W A zs.length c zs
  it : W.heap[bi]? = some (.stringIter (fBA f) pos)
  ge : ∀ g, A = some ⟨g, 0, none⟩ → w.heap.size ≤ g
  t : Turned (fun _ => False) w W
section
variable {a : AskV} {S : AskS} {f : List Nat} {w W W' : World} {ba bo bi pos c : Nat} {A : Option Addr} {zs ys : List Int}
theorem PutW.fresh (h : PutW a S f w ba bo bi pos A c zs W) (ht : Turned (fun _ => False) W W') : PutW a S f w ba bo bi pos A c zs W' :=
  ⟨h.aa.fresh ht, h.box.turned ht (fun e => e), h.own.turned ht (fun _ _ e => e), (ht.block bi (heap_lt h.it) (fun e => e)).trans h.it, h.ge, h.t.and_ ht⟩
theorem PutW.iter (h : PutW a S f w ba bo bi pos A c zs W) (h3 : w.heap.size ≤ bi) : PutW a S f w ba bo bi (pos + 1) A c zs (W.iterAt bi (fBA f) (pos + 1)) := by
  have hno : ∀ (g : Nat) (T : TypeId) (cs : Array Value), Blk W g T cs → g ≠ bi := fun g T cs hb e => by
    subst e
    unfold Blk at hb
    rw [h.it] at hb
    cases hb
  have hA : ∀ g, A = some ⟨g, 0, none⟩ → g ≠ bi := fun g e => by
    have ho := h.own
    rw [e] at ho
    obtain ⟨cs, hb, _⟩ := ho.row.row
    exact hno g _ _ hb
  have tI : Turned (· = bi) W (W.iterAt bi (fBA f) (pos + 1)) := ⟨rfl, rfl, rfl, by simp [World.iterAt], fun i hi hn => by
    simp only [World.iterAt]
    rw [Array.getElem?_setIfInBounds_ne (fun e => hn e.symm)]⟩
  exact ⟨Blk.iter h.aa (hno _ _ _ h.aa) _ _, Blk.iter h.box (hno _ _ _ h.box) _ _, h.own.turned tI (fun g e e2 => hA g e e2), Lib.iterAt_heap _ _ _ _ _ h.it, h.ge, h.t.iterAt h3 _ _⟩
theorem PutW.out (h : PutW a S f w ba bo bi pos A c zs W) (hbo : w.heap.size ≤ bo) (ho : OutAt bo A zs ys W W') : ∃ A' c', PutW a S f w ba bo bi pos A' c' (zs ++ ys) W' := by
  obtain ⟨A', c', h1, h2, h3, h4⟩ := ho
  have hbb := h.box
  have hoo := h.own
  have hl : zs.length + ys.length = (zs ++ ys).length := by rw [List.length_append]
  rw [hl] at h1 h2
  have n1 : ba ≠ bo := Blk.ne_ h.aa hbb (by decide)
  have n2 : ∀ g, A = some ⟨g, 0, none⟩ → g ≠ ba := fun g e => hoo.blk h.aa (by decide) e
  have n3 : bi ≠ bo := fun e => by
    subst e
    have := h.it
    unfold Blk at hbb
    rw [hbb] at this
    cases this
  have n4 : A ≠ some ⟨bi, 0, none⟩ := fun e => by
    rw [e] at hoo
    obtain ⟨cs, hb, _⟩ := hoo.row.row
    have := h.it
    unfold Blk at hb
    rw [hb] at this
    cases this
  refine ⟨A', c', h.aa.turned h4 (fun e => ?_), h1, h2, (h4.block bi (heap_lt h.it) (fun e => ?_)).trans h.it, fun g e => ?_, h.t.trans h4 (fun _ e => e) (fun i e => ?_)⟩
  · rcases e with e | e
    · exact n1 e
    · exact n2 _ e rfl
  · rcases e with e | e
    · exact n3 e
    · exact n4 e
  · rcases h3 g e with e2 | e2
    · exact h.ge g e2
    · exact Nat.le_trans h.t.size e2
  · rcases e with e | e
    · subst e; exact .inr hbo
    · exact .inr (h.ge i e)
theorem PutW.pos_ (h : PutW a S f w ba bo bi pos A c zs W) : W.iterPos bi = pos := by simp [World.iterPos, h.it]
end
def PutRel (a : AskV) (S : AskS) (f : List Nat) (w : World) (ba bo bi : Nat) (wr : World) : Prop :=
  ∃ (pos : Nat) (A : Option Addr) (c : Nat), pos ≤ f.length ∧ PutW a S f w ba bo bi pos A c (headA a ++ (f.take pos).flatMap (encF a)) wr
theorem PutRel.step {a : AskV} {S : AskS} {f : List Nat} {w W : World} {ba bo bi pos k c : Nat} {A : Option Addr} {zs : List Int} (hp : pos < f.length) (ht : f.take (pos + 1) = f.take pos ++ [k]) (hz : zs = (headA a ++ (f.take pos).flatMap (encF a)) ++ encF a k) (h : PutW a S f w ba bo bi (pos + 1) A c zs W) :
    PutRel a S f w ba bo bi W ∧ W.iterPos bi = pos + 1 := by
  refine ⟨⟨pos + 1, A, c, hp, ?_⟩, h.pos_⟩
  rw [ht, List.flatMap_append, ← List.append_assoc]
  rw [hz] at h
  simpa using h
theorem PutRel.outs {a : AskV} {S : AskS} {f : List Nat} {w W W' : World} {ba bo bi pos k c : Nat} {A : Option Addr} (hp : pos < f.length) (ht : f.take (pos + 1) = f.take pos ++ [k]) (hbo : w.heap.size ≤ bo) (h : PutW a S f w ba bo bi (pos + 1) A c (headA a ++ (f.take pos).flatMap (encF a)) W) (ho : OutAt bo A (headA a ++ (f.take pos).flatMap (encF a)) (encF a k) W W') :
    PutRel a S f w ba bo bi W' ∧ W'.iterPos bi = pos + 1 := by
  obtain ⟨A', c', h'⟩ := h.out hbo ho
  exact PutRel.step hp ht rfl h'
def InRel (a : AskV) (S : AskS) (f : List Nat) (w : World) (ba bo bi pos n : Nat) (z : Nat → List Int) (i : Value) (wr : World) : Prop :=
  ∃ (j : Nat) (A : Option Addr) (c : Nat), j ≤ n ∧ i = .int .i64 j ∧ PutW a S f w ba bo bi pos A c (z j) wr
def APut (a : AskV) (w : World) (e : Ending) (w' : World) : Prop :=
  if rightA a then ∃ A c, e = .returned (.tuple #[.slice A (putA a).length c, .int .i64 0]) ∧ OwnV w' A (putA a).length c (putA a) ∧ (∀ g, A = some ⟨g, 0, none⟩ → w.heap.size ≤ g) ∧ Turned (fun _ => False) w w'
  else e = .returned (.tuple #[.slice none 0 0, .int .i64 2]) ∧ Turned (fun _ => False) w w'
end Go.Proofs.YtijmfglgeaaoaaaGreatDoor

