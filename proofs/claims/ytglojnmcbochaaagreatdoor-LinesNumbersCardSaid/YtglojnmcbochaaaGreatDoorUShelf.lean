/-
 ytglojnmcbochaaagreatdoor: laws and walks on the road to LinesNumbers, joined: Elt AskA Shelf. Conditions stand at each theorem.
-/
import Derived.Test.YtglojnmcbochaaaGreatDoorUCodQ
import Derived.Test.YtglojnmcbochaaaGreatDoorUAskQ
import Derived.Lib.SlicesS
import Derived.Shelf.Strings.Builder1
import Derived.Shelf.Strings.Builder2
import Derived.Shelf.Strings.OnBuilder
import Derived.Shelf.Strings.Trim
import Derived.Shelf.Small.Utf8
import Derived.Shelf.Small.Strs
import Derived.Shelf.Strings.BuilderF
import Derived.Shelf.Strconv.Itoa0
import Derived.Shelf.Strconv.Itoa1
import Derived.Shelf.LaysM
import Derived.Shelf.Strconv.Itoa2
import Derived.Shelf.Strconv.Itoa3
import Derived.Shelf.Strconv.Itoa4
import Derived.Shelf.Strconv.ParseIntEmpty
import Derived.Shelf.Strconv.Clone
import Derived.Shelf.Strconv.SyntaxError
import Derived.Shelf.LaysC
import Derived.Shelf.Strconv.ToError
import Derived.Shelf.Strconv.Lower
import Derived.Shelf.Strconv.ParseUint10
import Derived.Shelf.Strconv.ParseUint10Empty
import Derived.Shelf.Strconv.ParseUint10Any
import Derived.Shelf.Strconv.ParseInt10
import Derived.Shelf.Strconv.RangeError
import Derived.Shelf.Strconv.ToErrorRange
import Derived.Shelf.Strconv.ParseUintEmpty
import Derived.Shelf.Strconv.ParseUint10b64
import Derived.Shelf.Strconv.ParseUint10b32
import Derived.Shelf.Strconv.ParseUint10b16
import Derived.Shelf.Strconv.ParseUint10b8
import Derived.Shelf.Strconv.ParseUint10At
import Derived.Shelf.Strconv.ParseInt10At64
import Derived.Shelf.Strconv.ParseInt10At32
import Derived.Shelf.Strconv.ParseInt10At16
import Derived.Shelf.Strconv.ParseInt10At8
import Derived.Shelf.Strconv.ParseInt10All
import Derived.Shelf.Strconv.ParseIntPublic10
import Derived.Shelf.Strconv.ErrVarParseInt
import Derived.Shelf.Strings.Search1
import Derived.Shelf.Strings.Search2
import Derived.Shelf.Strings.Search3
import Derived.Shelf.Strings.Shaped
import Derived.Shelf.Strings.Prefix
import Derived.Shelf.Strings.Fields
import Derived.Shelf.Unicode.Latin
import Derived.Shelf.Strings.Runes
import Derived.Shelf.Strings.AsciiSet
import Derived.Shelf.Bits.Mul64
import Derived.Shelf.Strings.Repeat
import Derived.Shelf.Unicode.DecodeSlow
import Derived.Shelf.Unicode.Is16White
import Derived.Shelf.Unicode.IsSpaceAny
import Derived.Shelf.Unicode.Is16Any
import Derived.Shelf.Unicode.Is32Any
import Derived.Shelf.Unicode.ExclAny
import Derived.Shelf.Slices.Turned
import Derived.Test.YtglojnmcbochaaaGreatDoorProg
namespace Go.Proofs.YtglojnmcbochaaaGreatDoor
open Go.RowKit Go.Maps

structure EltT (P : Program) (S U : TypeId) (q bytes : Nat) (z : Value) : Prop where
 und : P.underlying S = some (.slice U)
 info : (P.info? U).map (fun i => (i.zero, i.size, i.bytes)) = some (some z, q, bytes)
 size : z.cells.size = q
 pos : 0 < q

structure CelR (w : World) (A : Option Addr) (m : Nat) (vs : List Value) : Prop where
 len : vs.length = m
 cell : 0 < m → ∃ b off, A = some ⟨b, off, none⟩ ∧ ∀ j, j < m → w.cell? ⟨b, off + j, none⟩ = vs[j]?
section
variable {w w' : World} {A : Option Addr} {m : Nat} {vs : List Value}
theorem CelR.none_ (w : World) : CelR w none 0 [] := ⟨rfl, fun h => absurd h (by omega)⟩
theorem CelR.turned {W : Nat → Prop} (h : CelR w A m vs) (ht : Turned W w w') (hW : ∀ b o, A = some ⟨b, o, none⟩ → ¬ W b) : CelR w' A m vs :=
 ⟨h.len, fun hm => by
  obtain ⟨b, off, e, hc⟩ := h.cell hm
  refine ⟨b, off, e, fun j hj => ?_⟩
  have hv : vs[j]? = some (vs[j]'(by rw [h.len]; exact hj)) := List.getElem?_eq_getElem _
  have h1 := hc j hj
  rw [hv] at h1 ⊢
  exact cell_turned ht h1 (hW b off e)⟩
theorem CelR.fresh (h : CelR w A m vs) (ht : Turned (fun _ => False) w w') : CelR w' A m vs := h.turned ht (fun _ _ _ e => e)
theorem CelR.news (h : CelR w A m vs) : ∀ ad, A = some ad → ∀ j u, vs[j]? = some u → w.cell? (ad.add j) = some u := by
 intro ad had j u hu
 have hj : j < m := by
  have := (List.getElem?_eq_some_iff.1 hu).1
  rw [h.len] at this
  exact this
 obtain ⟨b, off, rfl, hc⟩ := h.cell (by omega)
 injection had with had
 subst had
 rw [Addr.add_mid, hc j hj, hu]
theorem CelR.cut {k : Nat} (h : CelR w A m vs) (hk : k ≤ m) : CelR w A k (vs.take k) :=
 ⟨by rw [List.length_take, h.len]; omega, fun h0 => by
  obtain ⟨b, off, e, hc⟩ := h.cell (by omega)
  exact ⟨b, off, e, fun j hj => by rw [List.getElem?_take, if_pos hj]; exact hc j (by omega)⟩⟩
end

structure RowE (w : World) (U q g n cap : Nat) (xs : List Value) : Prop where
 len : xs.length = n * q
 le : n ≤ cap
 max : cap ≤ maxLen
 row : ∃ cs, Blk w g U cs ∧ cs.size = cap * q ∧ cs.toList.take (n * q) = xs
section
variable {w w' : World} {U q g n cap : Nat} {xs : List Value}
theorem RowE.lt (h : RowE w U q g n cap xs) : g < w.heap.size := let ⟨_, hb, _⟩ := h.row; hb.lt
theorem RowE.turned {W : Nat → Prop} (h : RowE w U q g n cap xs) (ht : Turned W w w') (hg : ¬ W g) : RowE w' U q g n cap xs :=
 let ⟨cs, hb, r⟩ := h.row; ⟨h.len, h.le, h.max, cs, hb.turned ht hg, r⟩
theorem RowE.fresh (h : RowE w U q g n cap xs) (ht : Turned (fun _ => False) w w') : RowE w' U q g n cap xs := h.turned ht (fun e => e)
theorem RowE.own (h : RowE w U q g n cap xs) {base : Nat} (hb : base ≤ g) : w.ownsRow base U q (.slice (some ⟨g, 0, none⟩) n cap) n xs :=
 let ⟨cs, hb', hs, ht⟩ := h.row; ⟨h.len, .inr ⟨g, cap, cs, rfl, hb, hb', h.le, h.max, hs, ht⟩⟩
theorem RowE.of_own {base : Nat} (h : w.ownsRow base U q (.slice (some ⟨g, 0, none⟩) n cap) n xs) : RowE w U q g n cap xs := by
 obtain ⟨h1, h2⟩ := h
 rcases h2 with ⟨h2, _⟩ | ⟨g', cap', cs, hv, _, hb, hn, hc, hs, ht⟩
 ·cases h2
 ·injection hv with hv1 hv2 hv3
  injection hv1 with hv1
  injection hv1 with hv1
  subst hv1 hv3
  exact ⟨h1, hn, hc, cs, hb, hs, ht⟩
theorem RowE.cell? (h : RowE w U q g n cap xs) {i : Nat} (hi : i < n * q) : w.cell? ⟨g, i, none⟩ = xs[i]? := by
 obtain ⟨cs, hb, hs, ht⟩ := h.row
 rw [hb.cell, ← ht, List.getElem?_take, if_pos hi]
 simp
theorem RowE.cell (h : RowE w U q g n cap xs) {i : Nat} {v : Value} (hv : xs[i]? = some v) : w.cell? ⟨g, i, none⟩ = some v := by
 have hi := (List.getElem?_eq_some_iff.1 hv).1
 rw [h.len] at hi
 rw [h.cell? hi, hv]
theorem RowE.frozen (h : RowE w U q g n cap xs) (i : Nat) : w.frozen? ⟨g, i, none⟩ = false := let ⟨_, hb, _⟩ := h.row; hb.frozen i
theorem RowE.cut (h : RowE w U q g n cap xs) {k : Nat} (hk : k ≤ n) : RowE w U q g k cap (xs.take (k * q)) := by
 obtain ⟨cs, hb, hs, ht⟩ := h.row
 have hkq : k * q ≤ n * q := Nat.mul_le_mul_right _ hk
 refine ⟨by rw [List.length_take, h.len]; omega, Nat.le_trans hk h.le, h.max, cs, hb, hs, ?_⟩
 rw [← ht, List.take_take, Nat.min_eq_left hkq]
theorem RowE.celR (h : RowE w U q g n cap xs) : CelR w (some ⟨g, 0, none⟩) (n * q) xs :=
 ⟨h.len, fun _ => ⟨g, 0, rfl, fun j hj => by rw [Nat.zero_add]; exact h.cell? hj⟩⟩
theorem RowE.set (h : RowE w U q g n cap xs) (i : Nat) (v : Value) : RowE (w.setCell ⟨g, i, none⟩ v) U q g n cap (xs.set i v) := by
 obtain ⟨cs, hb, hs, ht⟩ := h.row
 refine ⟨by rw [List.length_set, h.len], h.le, h.max, _, hb.set_ i v, by simp [hs], ?_⟩
 rw [Array.toList_setIfInBounds, List.take_set, ht]
theorem RowE.new (w : World) (U q n : Nat) (cs : Array Value) (hl : cs.size = n * q) (hn : n ≤ maxLen) : RowE (w.alloc (.cells cs U)) U q w.heap.size n n cs.toList :=
 ⟨by simpa using hl, Nat.le_refl _, hn, cs, Blk.new _ _ _, hl, List.take_of_length_le (by simp [hl])⟩
end

def OwnE (w : World) (U q : Nat) (A : Option Addr) (n c : Nat) (xs : List Value) : Prop := w.ownsRow 0 U q (.slice A n c) n xs
section
variable {w w' : World} {U q : Nat} {A : Option Addr} {n c : Nat} {xs : List Value}
theorem OwnE.nil (w : World) (U q : Nat) : OwnE w U q none 0 0 [] := World.ownsRow_nil _ _ _ _
theorem OwnE.of_row {g : Nat} (h : RowE w U q g n c xs) : OwnE w U q (some ⟨g, 0, none⟩) n c xs := h.own (Nat.zero_le _)
theorem OwnE.row_or (h : OwnE w U q A n c xs) : (A = none ∧ n = 0 ∧ c = 0 ∧ xs = []) ∨ ∃ g, A = some ⟨g, 0, none⟩ ∧ RowE w U q g n c xs := by
 rcases h.2 with ⟨h1, h2⟩ | ⟨g, cap, cur, hv, _⟩
 ·left
  injection h1 with h3 h4 h5
  refine ⟨h3, h2, h5, ?_⟩
  have := h.1
  rw [h2, Nat.zero_mul] at this
  exact List.length_eq_zero_iff.1 this
 ·right
  injection hv with h3 h4 h5
  subst h3 h5
  exact ⟨g, rfl, RowE.of_own (base := 0) h⟩
theorem OwnE.len (h : OwnE w U q A n c xs) : xs.length = n * q := h.1
theorem OwnE.row {g : Nat} (h : OwnE w U q (some ⟨g, 0, none⟩) n c xs) : RowE w U q g n c xs := RowE.of_own (base := 0) h
theorem OwnE.some_ (h : OwnE w U q A n c xs) (hn : 0 < n) : ∃ g, A = some ⟨g, 0, none⟩ ∧ RowE w U q g n c xs := by
 rcases h.row_or with ⟨_, h1, _⟩ | h1
 ·omega
 ·exact h1
theorem OwnE.turned {W : Nat → Prop} (h : OwnE w U q A n c xs) (ht : Turned W w w') (hW : ∀ g, A = some ⟨g, 0, none⟩ → ¬ W g) : OwnE w' U q A n c xs := by
 rcases h.row_or with ⟨rfl, rfl, rfl, rfl⟩ | ⟨g, rfl, hr⟩
 ·exact OwnE.nil _ _ _
 ·exact OwnE.of_row (hr.turned ht (hW g rfl))
theorem OwnE.fresh (h : OwnE w U q A n c xs) (ht : Turned (fun _ => False) w w') : OwnE w' U q A n c xs := h.turned ht (fun _ _ e => e)
theorem OwnE.take {m : Nat} (h : OwnE w U q A n c xs) (hm : m ≤ n) (hs : A ≠ none) : OwnE w U q A m c (xs.take (m * q)) := by
 rcases h.row_or with ⟨rfl, _⟩ | ⟨g, rfl, hr⟩
 ·exact absurd rfl hs
 ·exact OwnE.of_row (hr.cut hm)
theorem OwnE.lt {g : Nat} (h : OwnE w U q A n c xs) (hA : A = some ⟨g, 0, none⟩) : g < w.heap.size := by subst hA; exact h.row.lt
theorem OwnE.max (h : OwnE w U q A n c xs) : n ≤ c ∧ c ≤ maxLen := by
 rcases h.row_or with ⟨_, rfl, rfl, _⟩ | ⟨g, rfl, hr⟩
 ·exact ⟨Nat.le_refl _, Nat.zero_le _⟩
 ·exact ⟨hr.le, hr.max⟩
theorem OwnE.blk {g L : Nat} {T : TypeId} {cs : Array Value} (h : OwnE w U q A n c xs) (hL : Blk w L T cs) (hT : T ≠ U) (hA : A = some ⟨g, 0, none⟩) : g ≠ L := by
 subst hA
 obtain ⟨cs', hb, _⟩ := h.row.row
 rintro rfl
 exact hT (Blk.inj hL hb).2
theorem OwnE.celR (h : OwnE w U q A n c xs) : CelR w A (n * q) xs := by
 rcases h.row_or with ⟨rfl, rfl, rfl, rfl⟩ | ⟨g, rfl, hr⟩
 ·rw [Nat.zero_mul]; exact CelR.none_ w
 ·exact hr.celR
end

def App2 (w w' : World) (A A' : Option Addr) (c c' : Nat) : Prop := (A' = A ∧ c' = c ∧ A ≠ none ∧ Turned (fun g => A = some ⟨g, 0, none⟩) w w') ∨ (A' = some ⟨w.heap.size, 0, none⟩ ∧ Turned (fun _ => False) w w')
section
variable {w w' : World} {A A' : Option Addr} {c c' : Nat}
theorem App2.turned (h : App2 w w' A A' c c') : Turned (fun g => A = some ⟨g, 0, none⟩) w w' := by
 rcases h with ⟨_, _, _, h⟩ | ⟨_, h⟩
 ·exact h
 ·exact h.mono (fun _ e => e.elim)
theorem App2.at_ {s : Nat} (h : App2 w w' A A' c c') (hs : s ≤ w.heap.size) : (A' = A ∧ c' = c) ∨ ∃ g, A' = some ⟨g, 0, none⟩ ∧ s ≤ g := by
 rcases h with ⟨h, h2, _⟩ | ⟨h, _⟩
 ·exact .inl ⟨h, h2⟩
 ·exact .inr ⟨_, h, hs⟩
theorem App2.mine {w0 : World} (h : App2 w w' A A' c c') (ht : Turned (fun _ => False) w0 w) (hA : ∀ g, A = some ⟨g, 0, none⟩ → w0.heap.size ≤ g) : Turned (fun _ => False) w0 w' ∧ ∀ g, A' = some ⟨g, 0, none⟩ → w0.heap.size ≤ g := by
 rcases h with ⟨rfl, _, _, h⟩ | ⟨rfl, h⟩
 ·exact ⟨ht.trans h (fun _ e => e) (fun g e => .inr (hA g e)), hA⟩
 ·exact ⟨ht.trans h (fun _ e => e) (fun _ e => e.elim), fun g e => by injection e with e; injection e with e; have := ht.size; omega⟩
end
section
variable {P : Program} {w : World} {S U q bytes : Nat} {z : Value} {A : Option Addr} {n c : Nat} {xs : List Value}
theorem OwnE.old {w' : World} {A' : Option Addr} {c' m : Nat} {ys : List Value} (h0 : OwnE w U q A n c xs) (ho : OwnE w' U q A' (n + m) c' (xs ++ ys)) (h : App2 w w' A A' c c') : OwnE w' U q A n c xs := by
 rcases h with ⟨rfl, rfl, hne, _⟩ | ⟨_, h⟩
 ·have := ho.take (m := n) (by omega) hne
  rw [List.take_left' h0.len] at this
  exact this
 ·exact h0.turned h (fun _ _ e => e)
theorem run_appE (E : EltT P S U q bytes z) {ty : TypeId} (h : OwnE w U q A n c xs) (ad : Addr) (m cc : Nat) (ys : List Value) (hl : ys.length = m * q) (hnews : ∀ j u, ys[j]? = some u → w.cell? (ad.add j) = some u) (h1 : ∀ u ∈ ys, u.oneCell' = true) (hm : 0 < m) (hmx : n + m ≤ maxLen) (hb : (n + m) * bytes ≤ 140737488355328) :
  ∃ A' c' w', (Builtin.append_ #[S, S] ty #[.slice A n c, .slice (some ad) m cc]).run P w = .ok (.slice A' (n + m) c') w' ∧ OwnE w' U q A' (n + m) c' (xs ++ ys) ∧ App2 w w' A A' c c' := by
 obtain ⟨i, hi, hz0, hz1, hz2⟩ := info_parts E.info
 rcases h.row_or with ⟨rfl, rfl, rfl, rfl⟩ | ⟨g, rfl, hr⟩
 ·obtain ⟨g, cap, w', hrun, h2, h3, h4, h5⟩ := run_append_lies (P := P) w S ty 0 U i z q bytes E.und hi hz0 hz1 hz2 E.size E.pos _ 0 [] (World.ownsRow_nil w 0 U q) ad m cc ys hl hnews h1 hm hmx hb (Nat.zero_le _) _ rfl
  rcases h4 with h4 | h4
  ·cases h4
  ·subst h4
   exact ⟨_, cap, w', hrun, h2, .inr ⟨rfl, (Turned.refl _ w).grown h3 (fun k e => by cases e)⟩⟩
 ·by_cases hroom : n + m ≤ c
  ·obtain ⟨w', hrun, h2, h3⟩ := run_append_fits (P := P) w 0 S ty U i q E.und hi hz1 g n c xs h ad m cc ys hl hnews h1 hroom
   exact ⟨_, c, w', hrun, h2, .inl ⟨rfl, rfl, by simp, (Turned.refl _ w).grown h3 (fun k e => by injection e with e; subst e; exact .inl rfl)⟩⟩
  ·have hle := hr.le
   have hxl := hr.len
   have hrun := run_append_grow (P := P) w S ty U i z E.und hi hz0 ⟨g, 0, none⟩ n c xs (by rw [hxl, hz1]) (hr.celR.news _ rfl) ad m cc ys (by rw [hl, hz1]) hnews (by omega) (by unfold maxLen at hmx; omega) (by rw [hz2]; exact growslice_fits (by omega) hb)
   have hge := grownCap_ge w (n + m) c U
   have hcm : grownCap w (n + m) c U ≤ maxLen := grownCap_le_maxLen w (n + m) c U hmx
   refine ⟨_, _, _, hrun, OwnE.of_row ⟨by rw [List.length_append, hxl, hl, Nat.add_mul], hge, hcm, _, heap_alloc_new w.drew _, ?_, ?_⟩, .inr ⟨rfl, (Turned.refl _ w).drew.alloc _⟩⟩
   ·simp only [Array.size_append, List.size_toArray, size_zeroCells, hxl, hl, E.size]
    rw [← Nat.add_mul, ← Nat.add_mul]
    congr 1
    omega
   ·simp only [Array.toList_append]
    rw [List.take_left' (by simp [hxl, hl, Nat.add_mul])]
theorem wpList_appE {ops : Array Oper} {rest : List Oper} {o : Oper} {a : Act} {Q : Exit → Act → World → Prop} (E : EltT P S U q bytes z) (hgd : o.guard = none) (s x : Operand) (ho : o.op = .call { callee := .builtin .append, args := #[s, x], argTypes := #[S, S] })
  (h : OwnE w U q A n c xs) (ad : Addr) (m cc : Nat) (ys : List Value) (hl : ys.length = m * q) (hnews : ∀ j u, ys[j]? = some u → w.cell? (ad.add j) = some u) (h1 : ∀ u ∈ ys, u.oneCell' = true) (hm : 0 < m) (hmx : n + m ≤ maxLen) (hb : (n + m) * bytes ≤ 140737488355328) (hs : a.eval s = .slice A n c) (hx : a.eval x = .slice (some ad) m cc)
  (hC : ∀ A' c' w', OwnE w' U q A' (n + m) c' (xs ++ ys) → App2 w w' A A' c c' → wpList P ops Q rest (a.put o.dst (.slice A' (n + m) c')) w') : wpList P ops Q (o :: rest) a w := by
 obtain ⟨A', c', w', hrun, h2, h3⟩ := run_appE (ty := o.type) E h ad m cc ys hl hnews h1 hm hmx hb
 exact Lib.wpList_append_run w hgd s x S S ho _ _ hs hx _ _ hrun (hC A' c' w' h2 h3)
theorem wpList_appE0 {ops : Array Oper} {rest : List Oper} {o : Oper} {a : Act} {Q : Exit → Act → World → Prop} {g : Nat} (E : EltT P S U q bytes z) (hgd : o.guard = none) (s x : Operand) (ho : o.op = .call { callee := .builtin .append, args := #[s, x], argTypes := #[S, S] })
  (h : OwnE w U q (some ⟨g, 0, none⟩) n c xs) (Ax : Option Addr) (cc : Nat) (hnil : Ax = none → cc = 0) (hs : a.eval s = .slice (some ⟨g, 0, none⟩) n c) (hx : a.eval x = .slice Ax 0 cc)
  (hC : ∀ w', OwnE w' U q (some ⟨g, 0, none⟩) n c xs → Turned (· = g) w w' → wpList P ops Q rest (a.put o.dst (.slice (some ⟨g, 0, none⟩) n c)) w') : wpList P ops Q (o :: rest) a w := by
 obtain ⟨i0, hi, hz0, hz1, hz2⟩ := info_parts E.info
 refine wpList_append_fits_any w hgd s x S ho 0 U i0 q E.und hi hz1 g n c xs hs h Ax 0 cc [] hx (by simp) (fun e => ⟨rfl, hnil e⟩) (fun ad e j u hu => by simp at hu) (by simp) (by have := h.max; omega) ?_
 intro w2 hown2 hg2
 rw [List.append_nil] at hown2
 exact hC _ hown2 ((Turned.refl _ w).grown hg2 (fun k e => by injection e with e; subst e; exact rfl |> .inl))
end
end Go.Proofs.YtglojnmcbochaaaGreatDoor

namespace Go.Proofs.YtglojnmcbochaaaGreatDoor
open Go.RowKit Go.Maps
set_option linter.unusedVariables false

structure Sl where
 A : Option Addr
 n : Nat
 c : Nat
def strV (l : List UInt8) : Value := .string ⟨l.toArray⟩
theorem strV_ba (s : ByteArray) : strV s.data.toList = .string s := rfl
def textC (l : List (List UInt8)) : List Value := l.map strV
def partC (l : List (List UInt8 × Int)) : List Value := l.flatMap fun p => [strV p.1, .int .i64 p.2]
def itemAt (l : List (List UInt8 × Int)) (i : Nat) : List UInt8 := (l.getD i ([], 0)).1
def qtyAt (l : List (List UInt8 × Int)) (i : Nat) : Int := (l.getD i ([], 0)).2
theorem textC_length (l : List (List UInt8)) : (textC l).length = l.length := by simp [textC]
theorem textC_append (a b : List (List UInt8)) : textC (a ++ b) = textC a ++ textC b := by simp [textC]
theorem textC_get (l : List (List UInt8)) (i : Nat) (h : i < l.length) : (textC l)[i]? = some (strV (l.getD i [])) := by
 simp [textC, List.getD_eq_getElem?_getD, h]
theorem textC_one (l : List (List UInt8)) : ∀ v ∈ textC l, v.oneCell' = true := by
 intro v hv
 obtain ⟨p, _, rfl⟩ := List.mem_map.1 hv
 rfl
theorem partC_length (l : List (List UInt8 × Int)) : (partC l).length = l.length * 2 := by
 induction l with
 | nil => rfl
 | cons p l ih =>
  show ([strV p.1, Value.int .i64 p.2] ++ partC l).length = _
  rw [List.length_append, ih, List.length_cons]
  simp
  omega
theorem partC_cons (p : List UInt8 × Int) (l : List (List UInt8 × Int)) : partC (p :: l) = strV p.1 :: .int .i64 p.2 :: partC l := rfl
theorem partC_append (a b : List (List UInt8 × Int)) : partC (a ++ b) = partC a ++ partC b := by simp [partC]
theorem partC_fst (l : List (List UInt8 × Int)) (i : Nat) (h : i < l.length) : (partC l)[i * 2]? = some (strV (itemAt l i)) := by
 induction l generalizing i with
 | nil => simp at h
 | cons p l ih =>
  cases i with
  | zero => rfl
  | succ i =>
   rw [partC_cons, show (i + 1) * 2 = i * 2 + 1 + 1 by omega, zJ, zJ, ih i (by simpa using h)]
   rfl
theorem partC_snd (l : List (List UInt8 × Int)) (i : Nat) (h : i < l.length) : (partC l)[i * 2 + 1]? = some (.int .i64 (qtyAt l i)) := by
 induction l generalizing i with
 | nil => simp at h
 | cons p l ih =>
  cases i with
  | zero => rfl
  | succ i =>
   rw [partC_cons, show (i + 1) * 2 + 1 = i * 2 + 1 + 1 + 1 by omega, zJ, zJ, ih i (by simpa using h)]
   rfl
theorem partC_one (l : List (List UInt8 × Int)) : ∀ v ∈ partC l, v.oneCell' = true := by
 intro v hv
 obtain ⟨p, _, hp⟩ := List.mem_flatMap.1 hv
 simp only [List.mem_cons, List.not_mem_nil, or_false] at hp
 rcases hp with rfl | rfl <;> rfl
structure SlT (w : World) (s : Sl) (l : List (List UInt8)) : Prop where
 cel : CelR w s.A s.n (textC l)
 len : l.length = s.n
 nil_ : s.A = none → s.n = 0 ∧ s.c = 0
 le : s.n ≤ s.c
 max : s.c ≤ maxLen
structure SlQ (w : World) (s : Sl) (l : List (List UInt8 × Int)) : Prop where
 cel : CelR w s.A (s.n * 2) (partC l)
 len : l.length = s.n
 nil_ : s.A = none → s.n = 0 ∧ s.c = 0
 le : s.n ≤ s.c
 max : s.c ≤ maxLen
structure AskS where
 P : Sl
 O : Sl
structure AskIs (w : World) (a : AskV) (S : AskS) : Prop where
 parts : SlQ w S.P a.parts
 others : SlT w S.O a.others
def askC (a : AskV) (S : AskS) : Array Value :=
 #[.int .u8 a.kind, .int .i64 a.request, strV a.item, .int .i64 a.qty, .int .i64 a.day, .int .i64 a.days, .int .i64 a.rank, .int .i64 a.lot, .int .i64 a.line, .slice S.P.A S.P.n S.P.c, .slice S.O.A S.O.n S.O.c]
def strOk (l : List UInt8) : Prop := l.length ≤ 9223372036854775807
structure AskV.Ok (a : AskV) : Prop where
 kind : isByte a.kind
 request : I64 a.request
 item : strOk a.item
 qty : I64 a.qty
 day : I64 a.day
 days : I64 a.days
 rank : I64 a.rank
 lot : I64 a.lot
 line : I64 a.line
 parts : ∀ p ∈ a.parts, strOk p.1 ∧ I64 p.2
 others : ∀ s ∈ a.others, strOk s
section
variable {w w' : World}
theorem SlT.fresh {s : Sl} {l : List (List UInt8)} (h : SlT w s l) (ht : Turned (fun _ => False) w w') : SlT w' s l := ⟨h.cel.fresh ht, h.len, h.nil_, h.le, h.max⟩
theorem SlQ.fresh {s : Sl} {l : List (List UInt8 × Int)} (h : SlQ w s l) (ht : Turned (fun _ => False) w w') : SlQ w' s l := ⟨h.cel.fresh ht, h.len, h.nil_, h.le, h.max⟩
theorem AskIs.fresh {a : AskV} {S : AskS} (h : AskIs w a S) (ht : Turned (fun _ => False) w w') : AskIs w' a S := ⟨h.parts.fresh ht, h.others.fresh ht⟩
theorem SlT.turned {W : Nat → Prop} {s : Sl} {l : List (List UInt8)} (h : SlT w s l) (ht : Turned W w w') (hW : ∀ b o, s.A = some ⟨b, o, none⟩ → ¬ W b) : SlT w' s l := ⟨h.cel.turned ht hW, h.len, h.nil_, h.le, h.max⟩
theorem SlQ.turned {W : Nat → Prop} {s : Sl} {l : List (List UInt8 × Int)} (h : SlQ w s l) (ht : Turned W w w') (hW : ∀ b o, s.A = some ⟨b, o, none⟩ → ¬ W b) : SlQ w' s l := ⟨h.cel.turned ht hW, h.len, h.nil_, h.le, h.max⟩
theorem SlT.cells {s : Sl} {l : List (List UInt8)} (h : SlT w s l) (hn : 0 < s.n) : ∃ b off, s.A = some ⟨b, off, none⟩ ∧ ∀ i, i < s.n → w.cell? ⟨b, off + i, none⟩ = some (strV (l.getD i [])) := by
 obtain ⟨b, off, e, hc⟩ := h.cel.cell hn
 refine ⟨b, off, e, fun i hi => ?_⟩
 rw [hc i hi, textC_get l i (by rw [h.len]; exact hi)]
theorem SlQ.cells {s : Sl} {l : List (List UInt8 × Int)} (h : SlQ w s l) (hn : 0 < s.n) : ∃ b off, s.A = some ⟨b, off, none⟩ ∧ ∀ i, i < s.n → w.cell? ⟨b, off + i * 2, none⟩ = some (strV (itemAt l i)) ∧ w.cell? ⟨b, off + i * 2 + 1, none⟩ = some (.int .i64 (qtyAt l i)) := by
 obtain ⟨b, off, e, hc⟩ := h.cel.cell (by omega)
 refine ⟨b, off, e, fun i hi => ⟨?_, ?_⟩⟩
 ·rw [hc (i * 2) (by omega), partC_fst l i (by rw [h.len]; exact hi)]
 ·rw [Nat.add_assoc, hc (i * 2 + 1) (by omega), partC_snd l i (by rw [h.len]; exact hi)]
end
/-! slices.Contains at texts -/
def baOf (l : List UInt8) : ByteArray := ⟨l.toArray⟩
theorem baOf_inj {a b : List UInt8} : baOf a = baOf b ↔ a = b := by
 unfold baOf
 constructor
 ·intro h
  injection h with h
  simpa using congrArg Array.toList h
 ·rintro rfl; rfl
theorem getD_baOf (l : List (List UInt8)) (i : Nat) : (l.map baOf).getD i ByteArray.empty = baOf (l.getD i []) := by
 rw [List.getD_eq_getElem?_getD, List.getD_eq_getElem?_getD, List.getElem?_map]
 cases l[i]? <;> rfl
theorem containsS_map (l : List (List UInt8)) (x : List UInt8) (k : Nat) : Lib.containsS ((l.map baOf).take k) (baOf x) = (l.take k).contains x := by
 rw [Bool.eq_iff_iff, Lib.containsS_iff, ← List.map_take, List.contains_iff_mem, List.mem_map]
 constructor
 ·rintro ⟨y, hy, e⟩
  rw [baOf_inj] at e
  exact e ▸ hy
 ·exact fun h => ⟨x, h, rfl⟩
/-! unlike, step by step -/
def unlikeTo (l : List (List UInt8)) (j : Nat) : Bool := (List.range j).all fun i => codeL (l.getD i []) && !(l.take i).contains (l.getD i [])
theorem unlikeTo_succ (l : List (List UInt8)) (j : Nat) : unlikeTo l (j + 1) = (unlikeTo l j && (codeL (l.getD j []) && !(l.take j).contains (l.getD j []))) := by
 unfold unlikeTo
 rw [List.range_succ, List.all_append]
 simp
theorem unlikeTo_mono {l : List (List UInt8)} {j k : Nat} (h : unlikeTo l k = true) (hj : j ≤ k) : unlikeTo l j = true := by
 unfold unlikeTo at *
 rw [List.all_eq_true] at *
 intro i hi
 exact h i (List.mem_range.2 (by have := List.mem_range.1 hi; omega))
theorem unlike_no {l : List (List UInt8)} {j : Nat} (hj : j < l.length) (h : (codeL (l.getD j []) && !(l.take j).contains (l.getD j [])) = false) : unlikeB l = false := by
 cases hu : unlikeB l with
 | false => rfl
 | true =>
  have h1 := unlikeTo_mono (l := l) (k := l.length) hu (show j + 1 ≤ l.length by omega)
  rw [unlikeTo_succ, h] at h1
  simp at h1
end Go.Proofs.YtglojnmcbochaaaGreatDoor

namespace Go.Proofs
open Go.Shelf
def Tryz.laysM173_ren : Go.Shelf.Ren := ⟨fun | 173 => 104 | 246 => 105 | 283 => 131 | 284 => 132 | 285 => 133 | 286 => 134 | 129 => 147 | 317 => 146 | 318 => 148 | 319 => 149 | 320 => 150 | 337 => 160 | 338 => 161 | n => n, fun | 2 => 2 | 3 => 3 | 9 => 9 | 4 => 4 | 171 => 195 | 0 => 0 | 53 => 139 | 37 => 106 | 5 => 5 | 173 => 198 | 212 => 209 | 51 => 152 | 20 => 20 | 213 => 210 | 46 => 115 | 232 => 230 | 233 => 231 | n => n, fun | 17 => 5 | 18 => 10 | 19 => 11 | n => n⟩
theorem Tryz.laysM173 : Go.Proofs.LaysM.n173 Tryz.prog Tryz.laysM173_ren := {
 mixed := by kernel_rfl
 f129 := Tryz.func147.trans (congrArg some (by kernel_rfl))
 f173 := Tryz.func104.trans (congrArg some (by kernel_rfl))
 f246 := Tryz.func105.trans (congrArg some (by kernel_rfl))
 f283 := Tryz.func131.trans (congrArg some (by kernel_rfl))
 f284 := Tryz.func132.trans (congrArg some (by kernel_rfl))
 f285 := Tryz.func133.trans (congrArg some (by kernel_rfl))
 f286 := Tryz.func134.trans (congrArg some (by kernel_rfl))
 f317 := Tryz.func146.trans (congrArg some (by kernel_rfl))
 f318 := Tryz.func148.trans (congrArg some (by kernel_rfl))
 f319 := Tryz.func149.trans (congrArg some (by kernel_rfl))
 f320 := Tryz.func150.trans (congrArg some (by kernel_rfl))
 f337 := Tryz.func160.trans (congrArg some (by kernel_rfl))
 f338 := Tryz.func161.trans (congrArg some (by kernel_rfl))
 t0 := Tryz.underlying0
 a0 := Tryz.isAgg0
 z0 := Tryz.sizeOf0
 v0 := Tryz.zeroValue0
 t2 := Tryz.underlying2
 a2 := Tryz.isAgg2
 z2 := Tryz.sizeOf2
 v2 := Tryz.zeroValue2
 t3 := Tryz.underlying3
 a3 := Tryz.isAgg3
 z3 := Tryz.sizeOf3
 v3 := Tryz.zeroValue3
 t4 := Tryz.underlying4
 a4 := Tryz.isAgg4
 z4 := Tryz.sizeOf4
 v4 := Tryz.zeroValue4
 t5 := Tryz.underlying5
 a5 := Tryz.isAgg5
 z5 := Tryz.sizeOf5
 v5 := Tryz.zeroValue5
 t9 := Tryz.underlying9
 a9 := Tryz.isAgg9
 z9 := Tryz.sizeOf9
 v9 := Tryz.zeroValue9
 t20 := Tryz.underlying20
 a20 := Tryz.isAgg20
 z20 := Tryz.sizeOf20
 v20 := Tryz.zeroValue20
 t37 := Tryz.underlying106
 a37 := Tryz.isAgg106
 z37 := Tryz.sizeOf106
 v37 := Tryz.zeroValue106
 t46 := Tryz.underlying115
 a46 := Tryz.isAgg115
 z46 := Tryz.sizeOf115
 v46 := Tryz.zeroValue115
 t51 := Tryz.underlying152
 a51 := Tryz.isAgg152
 z51 := Tryz.sizeOf152
 v51 := Tryz.zeroValue152
 t53 := Tryz.underlying139
 a53 := Tryz.isAgg139
 z53 := Tryz.sizeOf139
 v53 := Tryz.zeroValue139
 t171 := Tryz.underlying195
 a171 := Tryz.isAgg195
 z171 := Tryz.sizeOf195
 v171 := Tryz.zeroValue195
 t173 := Tryz.underlying198
 a173 := Tryz.isAgg198
 z173 := Tryz.sizeOf198
 v173 := Tryz.zeroValue198
 t212 := Tryz.underlying209
 a212 := Tryz.isAgg209
 z212 := Tryz.sizeOf209
 v212 := Tryz.zeroValue209
 t213 := Tryz.underlying210
 a213 := Tryz.isAgg210
 z213 := Tryz.sizeOf210
 t232 := Tryz.underlying230
 a232 := Tryz.isAgg230
 z232 := Tryz.sizeOf230
 v232 := Tryz.zeroValue230
 t233 := Tryz.underlying231
 a233 := Tryz.isAgg231
 z233 := Tryz.sizeOf231
 v233 := Tryz.zeroValue231
 g17 := by kernel_rfl
 g18 := by kernel_rfl
 g19 := by kernel_rfl
 i0 := by kernel_rfl
 i2 := by kernel_rfl
 i3 := by kernel_rfl
 i4 := by kernel_rfl
 i5 := by kernel_rfl
 i9 := by kernel_rfl
 i20 := by kernel_rfl
 i37 := by kernel_rfl
 i46 := by kernel_rfl
 i51 := by kernel_rfl
 i53 := by kernel_rfl
 i171 := by kernel_rfl
 i173 := by kernel_rfl
 i212 := by kernel_rfl
 i232 := by kernel_rfl
 i233 := by kernel_rfl
 m17 := by kernel_rfl
 m18 := by kernel_rfl
 m19 := by kernel_rfl }
def Tryz.laysC174_ren : Go.Shelf.Ren := ⟨fun | 174 => 129 | 247 => 144 | 245 => 145 | 287 => 155 | 279 => 156 | 280 => 157 | 281 => 158 | 282 => 159 | 321 => 164 | 322 => 165 | 316 => 166 | 171 => 35 | 205 => 167 | 243 => 77 | 246 => 105 | 283 => 131 | 284 => 132 | 285 => 133 | 286 => 134 | 129 => 147 | 317 => 146 | 318 => 148 | 319 => 149 | 320 => 150 | 337 => 160 | 338 => 161 | n => n, fun | 9 => 9 | 3 => 3 | 2 => 2 | 75 => 111 | 85 => 193 | 4 => 4 | 167 => 218 | 5 => 5 | 53 => 139 | 175 => 219 | 46 => 115 | 168 => 221 | 37 => 106 | 0 => 0 | 210 => 228 | 21 => 21 | 127 => 155 | 145 => 234 | 143 => 232 | 171 => 195 | 173 => 198 | 212 => 209 | 51 => 152 | 20 => 20 | 213 => 210 | 232 => 230 | 233 => 231 | 80 => 114 | n => n, fun | 15 => 8 | 16 => 9 | 17 => 5 | 18 => 10 | 19 => 11 | n => n⟩
theorem Tryz.laysC174 : Go.Proofs.LaysC.n174 Tryz.prog Tryz.laysC174_ren := {
 mixed := by kernel_rfl
 f129 := Tryz.func147.trans (congrArg some (by kernel_rfl))
 f171 := Tryz.func35.trans (congrArg some (by kernel_rfl))
 f174 := Tryz.func129.trans (congrArg some (by kernel_rfl))
 f205 := Tryz.func167.trans (congrArg some (by kernel_rfl))
 f243 := Tryz.func77.trans (congrArg some (by kernel_rfl))
 f245 := Tryz.func145.trans (congrArg some (by kernel_rfl))
 f246 := Tryz.func105.trans (congrArg some (by kernel_rfl))
 f247 := Tryz.func144.trans (congrArg some (by kernel_rfl))
 f279 := Tryz.func156.trans (congrArg some (by kernel_rfl))
 f280 := Tryz.func157.trans (congrArg some (by kernel_rfl))
 f281 := Tryz.func158.trans (congrArg some (by kernel_rfl))
 f282 := Tryz.func159.trans (congrArg some (by kernel_rfl))
 f283 := Tryz.func131.trans (congrArg some (by kernel_rfl))
 f284 := Tryz.func132.trans (congrArg some (by kernel_rfl))
 f285 := Tryz.func133.trans (congrArg some (by kernel_rfl))
 f286 := Tryz.func134.trans (congrArg some (by kernel_rfl))
 f287 := Tryz.func155.trans (congrArg some (by kernel_rfl))
 f316 := Tryz.func166.trans (congrArg some (by kernel_rfl))
 f317 := Tryz.func146.trans (congrArg some (by kernel_rfl))
 f318 := Tryz.func148.trans (congrArg some (by kernel_rfl))
 f319 := Tryz.func149.trans (congrArg some (by kernel_rfl))
 f320 := Tryz.func150.trans (congrArg some (by kernel_rfl))
 f321 := Tryz.func164.trans (congrArg some (by kernel_rfl))
 f322 := Tryz.func165.trans (congrArg some (by kernel_rfl))
 f337 := Tryz.func160.trans (congrArg some (by kernel_rfl))
 f338 := Tryz.func161.trans (congrArg some (by kernel_rfl))
 t0 := Tryz.underlying0
 a0 := Tryz.isAgg0
 z0 := Tryz.sizeOf0
 v0 := Tryz.zeroValue0
 t2 := Tryz.underlying2
 a2 := Tryz.isAgg2
 z2 := Tryz.sizeOf2
 v2 := Tryz.zeroValue2
 t3 := Tryz.underlying3
 a3 := Tryz.isAgg3
 z3 := Tryz.sizeOf3
 v3 := Tryz.zeroValue3
 t4 := Tryz.underlying4
 a4 := Tryz.isAgg4
 z4 := Tryz.sizeOf4
 v4 := Tryz.zeroValue4
 t5 := Tryz.underlying5
 a5 := Tryz.isAgg5
 z5 := Tryz.sizeOf5
 v5 := Tryz.zeroValue5
 t9 := Tryz.underlying9
 a9 := Tryz.isAgg9
 z9 := Tryz.sizeOf9
 v9 := Tryz.zeroValue9
 t20 := Tryz.underlying20
 a20 := Tryz.isAgg20
 z20 := Tryz.sizeOf20
 v20 := Tryz.zeroValue20
 t21 := Tryz.underlying21
 a21 := Tryz.isAgg21
 z21 := Tryz.sizeOf21
 v21 := Tryz.zeroValue21
 t37 := Tryz.underlying106
 a37 := Tryz.isAgg106
 z37 := Tryz.sizeOf106
 v37 := Tryz.zeroValue106
 t46 := Tryz.underlying115
 a46 := Tryz.isAgg115
 z46 := Tryz.sizeOf115
 v46 := Tryz.zeroValue115
 t51 := Tryz.underlying152
 a51 := Tryz.isAgg152
 z51 := Tryz.sizeOf152
 v51 := Tryz.zeroValue152
 t53 := Tryz.underlying139
 a53 := Tryz.isAgg139
 z53 := Tryz.sizeOf139
 v53 := Tryz.zeroValue139
 t75 := Tryz.underlying111
 a75 := Tryz.isAgg111
 z75 := Tryz.sizeOf111
 v75 := Tryz.zeroValue111
 t85 := Tryz.underlying193
 a85 := Tryz.isAgg193
 z85 := Tryz.sizeOf193
 v85 := Tryz.zeroValue193
 t127 := Tryz.underlying155
 a127 := Tryz.isAgg155
 z127 := Tryz.sizeOf155
 v127 := Tryz.zeroValue155
 t143 := Tryz.underlying232
 a143 := Tryz.isAgg232
 z143 := Tryz.sizeOf232
 v143 := Tryz.zeroValue232
 t145 := Tryz.underlying234
 a145 := Tryz.isAgg234
 z145 := Tryz.sizeOf234
 v145 := Tryz.zeroValue234
 t167 := Tryz.underlying218
 a167 := Tryz.isAgg218
 z167 := Tryz.sizeOf218
 v167 := Tryz.zeroValue218
 t168 := Tryz.underlying221
 a168 := Tryz.isAgg221
 z168 := Tryz.sizeOf221
 v168 := Tryz.zeroValue221
 t171 := Tryz.underlying195
 a171 := Tryz.isAgg195
 z171 := Tryz.sizeOf195
 v171 := Tryz.zeroValue195
 t173 := Tryz.underlying198
 a173 := Tryz.isAgg198
 z173 := Tryz.sizeOf198
 v173 := Tryz.zeroValue198
 t175 := Tryz.underlying219
 a175 := Tryz.isAgg219
 z175 := Tryz.sizeOf219
 v175 := Tryz.zeroValue219
 t210 := Tryz.underlying228
 a210 := Tryz.isAgg228
 z210 := Tryz.sizeOf228
 v210 := Tryz.zeroValue228
 t212 := Tryz.underlying209
 a212 := Tryz.isAgg209
 z212 := Tryz.sizeOf209
 v212 := Tryz.zeroValue209
 t213 := Tryz.underlying210
 a213 := Tryz.isAgg210
 z213 := Tryz.sizeOf210
 t232 := Tryz.underlying230
 a232 := Tryz.isAgg230
 z232 := Tryz.sizeOf230
 v232 := Tryz.zeroValue230
 t233 := Tryz.underlying231
 a233 := Tryz.isAgg231
 z233 := Tryz.sizeOf231
 v233 := Tryz.zeroValue231
 g15 := by kernel_rfl
 g16 := by kernel_rfl
 g17 := by kernel_rfl
 g18 := by kernel_rfl
 g19 := by kernel_rfl
 t80 := Tryz.underlying114
 a80 := Tryz.isAgg114
 z80 := Tryz.sizeOf114
 v80 := Tryz.zeroValue114
 i0 := by kernel_rfl
 i2 := by kernel_rfl
 i3 := by kernel_rfl
 i4 := by kernel_rfl
 i5 := by kernel_rfl
 i9 := by kernel_rfl
 i20 := by kernel_rfl
 i21 := by kernel_rfl
 i37 := by kernel_rfl
 i46 := by kernel_rfl
 i51 := by kernel_rfl
 i53 := by kernel_rfl
 i75 := by kernel_rfl
 i80 := by kernel_rfl
 i85 := by kernel_rfl
 i127 := by kernel_rfl
 i143 := by kernel_rfl
 i145 := by kernel_rfl
 i167 := by kernel_rfl
 i168 := by kernel_rfl
 i171 := by kernel_rfl
 i173 := by kernel_rfl
 i175 := by kernel_rfl
 i210 := by kernel_rfl
 i212 := by kernel_rfl
 i232 := by kernel_rfl
 i233 := by kernel_rfl
 m15 := by kernel_rfl
 m16 := by kernel_rfl
 m17 := by kernel_rfl
 m18 := by kernel_rfl
 m19 := by kernel_rfl
 c0 := by kernel_rfl
 c2 := by kernel_rfl
 c3 := by kernel_rfl
 c4 := by kernel_rfl
 c5 := by kernel_rfl
 c9 := by kernel_rfl
 c20 := by kernel_rfl
 c21 := by kernel_rfl
 c37 := by kernel_rfl
 c46 := by kernel_rfl
 c51 := by kernel_rfl
 c53 := by kernel_rfl
 c75 := by kernel_rfl
 c80 := by kernel_rfl
 c85 := by kernel_rfl
 c127 := by kernel_rfl
 c143 := by kernel_rfl
 c145 := by kernel_rfl
 c167 := by kernel_rfl
 c168 := by kernel_rfl
 c171 := by kernel_rfl
 c173 := by kernel_rfl
 c175 := by kernel_rfl
 c210 := by kernel_rfl
 c212 := by kernel_rfl
 c213 := by kernel_rfl
 c232 := by kernel_rfl
 c233 := by kernel_rfl }
end Go.Proofs

