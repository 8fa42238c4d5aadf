/-
  Rows of elements of any type, each of q cells: a slice that is nil or lies whole in a block of its own; cells that can be read; append told apart by whether there was room. No condition: laws over any world.
-/
import Derived.Test.YtglojnmcbochaaaGreatDoorTCodD
namespace Go.Proofs.YtglojnmcbochaaaGreatDoor
open Go.RowKit Go.Maps

/-- U is a type of q cells and so many bytes, z its zero; S is []U. -/
structure EltT (P : Program) (S U : TypeId) (q bytes : Nat) (z : Value) : Prop where
  und : P.underlying S = some (.slice U)
  info : (P.info? U).map (fun i => (i.zero, i.size, i.bytes)) = some (some z, q, bytes)
  size : z.cells.size = q
  pos : 0 < q

/-- m cells vs from A on can be read. -/
structure CelR (w : World) (A : Option Addr) (m : Nat) (vs : List Value) : Prop where
  len : vs.length = m
  cell : 0 < m → ∃ b off, A = some ⟨b, off, none⟩ ∧ ∀ j, j < m → w.cell? ⟨b, off + j, none⟩ = vs[j]?
section
variable {w w' : World} {A : Option Addr} {m : Nat} {vs : List Value}
theorem CelR.none_ (w : World) : CelR w none 0 [] := ⟨rfl, fun h => absurd h (by omega)⟩
theorem CelR.turned {W : Nat → Prop} (h : CelR w A m vs) (ht : Turned W w w') (hW : ∀ b o, A = some ⟨b, o, none⟩ → ¬ W b) : CelR w' A m vs :=
  ⟨h.len, fun hm => by
    obtain ⟨b, off, e, hc⟩ := h.cell hm
    refine ⟨b, off, e, fun j hj => ?_⟩
    have hv : vs[j]? = some (vs[j]'(by rw [h.len]; exact hj)) := List.getElem?_eq_getElem _
    have h1 := hc j hj
    rw [hv] at h1 ⊢
    exact cell_turned ht h1 (hW b off e)⟩
theorem CelR.fresh (h : CelR w A m vs) (ht : Turned (fun _ => False) w w') : CelR w' A m vs := h.turned ht (fun _ _ _ e => e)
theorem CelR.news (h : CelR w A m vs) : ∀ ad, A = some ad → ∀ j u, vs[j]? = some u → w.cell? (ad.add j) = some u := by
  intro ad had j u hu
  have hj : j < m := by
    have := (List.getElem?_eq_some_iff.1 hu).1
    rw [h.len] at this
    exact this
  obtain ⟨b, off, rfl, hc⟩ := h.cell (by omega)
  injection had with had
  subst had
  rw [Addr.add_mid, hc j hj, hu]
theorem CelR.cut {k : Nat} (h : CelR w A m vs) (hk : k ≤ m) : CelR w A k (vs.take k) :=
  ⟨by rw [List.length_take, h.len]; omega, fun h0 => by
    obtain ⟨b, off, e, hc⟩ := h.cell (by omega)
    exact ⟨b, off, e, fun j hj => by rw [List.getElem?_take, if_pos hj]; exact hc j (by omega)⟩⟩
end

/-- n elements, whose cells are xs, at the head of block g, which has room for cap. -/
structure RowE (w : World) (U q g n cap : Nat) (xs : List Value) : Prop where
  len : xs.length = n * q
  le : n ≤ cap
  max : cap ≤ maxLen
  row : ∃ cs, Blk w g U cs ∧ cs.size = cap * q ∧ cs.toList.take (n * q) = xs
section
variable {w w' : World} {U q g n cap : Nat} {xs : List Value}
theorem RowE.lt (h : RowE w U q g n cap xs) : g < w.heap.size := let ⟨_, hb, _⟩ := h.row; hb.lt
theorem RowE.turned {W : Nat → Prop} (h : RowE w U q g n cap xs) (ht : Turned W w w') (hg : ¬ W g) : RowE w' U q g n cap xs :=
  let ⟨cs, hb, r⟩ := h.row; ⟨h.len, h.le, h.max, cs, hb.turned ht hg, r⟩
theorem RowE.fresh (h : RowE w U q g n cap xs) (ht : Turned (fun _ => False) w w') : RowE w' U q g n cap xs := h.turned ht (fun e => e)
theorem RowE.own (h : RowE w U q g n cap xs) {base : Nat} (hb : base ≤ g) : w.ownsRow base U q (.slice (some ⟨g, 0, none⟩) n cap) n xs :=
  let ⟨cs, hb', hs, ht⟩ := h.row; ⟨h.len, .inr ⟨g, cap, cs, rfl, hb, hb', h.le, h.max, hs, ht⟩⟩
theorem RowE.of_own {base : Nat} (h : w.ownsRow base U q (.slice (some ⟨g, 0, none⟩) n cap) n xs) : RowE w U q g n cap xs := by
  obtain ⟨h1, h2⟩ := h
  rcases h2 with ⟨h2, _⟩ | ⟨g', cap', cs, hv, _, hb, hn, hc, hs, ht⟩
  · cases h2
  · injection hv with hv1 hv2 hv3
    injection hv1 with hv1
    injection hv1 with hv1
    subst hv1 hv3
    exact ⟨h1, hn, hc, cs, hb, hs, ht⟩
theorem RowE.cell? (h : RowE w U q g n cap xs) {i : Nat} (hi : i < n * q) : w.cell? ⟨g, i, none⟩ = xs[i]? := by
  obtain ⟨cs, hb, hs, ht⟩ := h.row
  rw [hb.cell, ← ht, List.getElem?_take, if_pos hi]
  simp
theorem RowE.cell (h : RowE w U q g n cap xs) {i : Nat} {v : Value} (hv : xs[i]? = some v) : w.cell? ⟨g, i, none⟩ = some v := by
  have hi := (List.getElem?_eq_some_iff.1 hv).1
  rw [h.len] at hi
  rw [h.cell? hi, hv]
theorem RowE.frozen (h : RowE w U q g n cap xs) (i : Nat) : w.frozen? ⟨g, i, none⟩ = false := let ⟨_, hb, _⟩ := h.row; hb.frozen i
theorem RowE.cut (h : RowE w U q g n cap xs) {k : Nat} (hk : k ≤ n) : RowE w U q g k cap (xs.take (k * q)) := by
  obtain ⟨cs, hb, hs, ht⟩ := h.row
  have hkq : k * q ≤ n * q := Nat.mul_le_mul_right _ hk
  refine ⟨by rw [List.length_take, h.len]; omega, Nat.le_trans hk h.le, h.max, cs, hb, hs, ?_⟩
  rw [← ht, List.take_take, Nat.min_eq_left hkq]
theorem RowE.celR (h : RowE w U q g n cap xs) : CelR w (some ⟨g, 0, none⟩) (n * q) xs :=
  ⟨h.len, fun _ => ⟨g, 0, rfl, fun j hj => by rw [Nat.zero_add]; exact h.cell? hj⟩⟩
theorem RowE.new (w : World) (U q n : Nat) (cs : Array Value) (hl : cs.size = n * q) (hn : n ≤ maxLen) : RowE (w.alloc (.cells cs U)) U q w.heap.size n n cs.toList :=
  ⟨by simpa using hl, Nat.le_refl _, hn, cs, Blk.new _ _ _, hl, List.take_of_length_le (by simp [hl])⟩
end

def OwnE (w : World) (U q : Nat) (A : Option Addr) (n c : Nat) (xs : List Value) : Prop := w.ownsRow 0 U q (.slice A n c) n xs
section
variable {w w' : World} {U q : Nat} {A : Option Addr} {n c : Nat} {xs : List Value}
theorem OwnE.nil (w : World) (U q : Nat) : OwnE w U q none 0 0 [] := World.ownsRow_nil _ _ _ _
theorem OwnE.of_row {g : Nat} (h : RowE w U q g n c xs) : OwnE w U q (some ⟨g, 0, none⟩) n c xs := h.own (Nat.zero_le _)
theorem OwnE.row_or (h : OwnE w U q A n c xs) : (A = none ∧ n = 0 ∧ c = 0 ∧ xs = []) ∨ ∃ g, A = some ⟨g, 0, none⟩ ∧ RowE w U q g n c xs := by
  rcases h.2 with ⟨h1, h2⟩ | ⟨g, cap, cur, hv, _⟩
  · left
    injection h1 with h3 h4 h5
    refine ⟨h3, h2, h5, ?_⟩
    have := h.1
    rw [h2, Nat.zero_mul] at this
    exact List.length_eq_zero_iff.1 this
  · right
    injection hv with h3 h4 h5
    subst h3 h5
    exact ⟨g, rfl, RowE.of_own (base := 0) h⟩
theorem OwnE.len (h : OwnE w U q A n c xs) : xs.length = n * q := h.1
theorem OwnE.row {g : Nat} (h : OwnE w U q (some ⟨g, 0, none⟩) n c xs) : RowE w U q g n c xs := RowE.of_own (base := 0) h
theorem OwnE.some_ (h : OwnE w U q A n c xs) (hn : 0 < n) : ∃ g, A = some ⟨g, 0, none⟩ ∧ RowE w U q g n c xs := by
  rcases h.row_or with ⟨_, h1, _⟩ | h1
  · omega
  · exact h1
theorem OwnE.turned {W : Nat → Prop} (h : OwnE w U q A n c xs) (ht : Turned W w w') (hW : ∀ g, A = some ⟨g, 0, none⟩ → ¬ W g) : OwnE w' U q A n c xs := by
  rcases h.row_or with ⟨rfl, rfl, rfl, rfl⟩ | ⟨g, rfl, hr⟩
  · exact OwnE.nil _ _ _
  · exact OwnE.of_row (hr.turned ht (hW g rfl))
theorem OwnE.fresh (h : OwnE w U q A n c xs) (ht : Turned (fun _ => False) w w') : OwnE w' U q A n c xs := h.turned ht (fun _ _ e => e)
theorem OwnE.take {m : Nat} (h : OwnE w U q A n c xs) (hm : m ≤ n) (hs : A ≠ none) : OwnE w U q A m c (xs.take (m * q)) := by
  rcases h.row_or with ⟨rfl, _⟩ | ⟨g, rfl, hr⟩
  · exact absurd rfl hs
  · exact OwnE.of_row (hr.cut hm)
theorem OwnE.lt {g : Nat} (h : OwnE w U q A n c xs) (hA : A = some ⟨g, 0, none⟩) : g < w.heap.size := by subst hA; exact h.row.lt
theorem OwnE.max (h : OwnE w U q A n c xs) : n ≤ c ∧ c ≤ maxLen := by
  rcases h.row_or with ⟨_, rfl, rfl, _⟩ | ⟨g, rfl, hr⟩
  · exact ⟨Nat.le_refl _, Nat.zero_le _⟩
  · exact ⟨hr.le, hr.max⟩
theorem OwnE.blk {g L : Nat} {T : TypeId} {cs : Array Value} (h : OwnE w U q A n c xs) (hL : Blk w L T cs) (hT : T ≠ U) (hA : A = some ⟨g, 0, none⟩) : g ≠ L := by
  subst hA
  obtain ⟨cs', hb, _⟩ := h.row.row
  rintro rfl
  exact hT (Blk.inj hL hb).2
theorem OwnE.celR (h : OwnE w U q A n c xs) : CelR w A (n * q) xs := by
  rcases h.row_or with ⟨rfl, rfl, rfl, rfl⟩ | ⟨g, rfl, hr⟩
  · rw [Nat.zero_mul]; exact CelR.none_ w
  · exact hr.celR
end

/-- What an append hands back: the same place, or a new one. -/
def App2 (w w' : World) (A A' : Option Addr) (c c' : Nat) : Prop := (A' = A ∧ c' = c ∧ A ≠ none ∧ Turned (fun g => A = some ⟨g, 0, none⟩) w w') ∨ (A' = some ⟨w.heap.size, 0, none⟩ ∧ Turned (fun _ => False) w w')
section
variable {w w' : World} {A A' : Option Addr} {c c' : Nat}
theorem App2.turned (h : App2 w w' A A' c c') : Turned (fun g => A = some ⟨g, 0, none⟩) w w' := by
  rcases h with ⟨_, _, _, h⟩ | ⟨_, h⟩
  · exact h
  · exact h.mono (fun _ e => e.elim)
theorem App2.at_ {s : Nat} (h : App2 w w' A A' c c') (hs : s ≤ w.heap.size) : (A' = A ∧ c' = c) ∨ ∃ g, A' = some ⟨g, 0, none⟩ ∧ s ≤ g := by
  rcases h with ⟨h, h2, _⟩ | ⟨h, _⟩
  · exact .inl ⟨h, h2⟩
  · exact .inr ⟨_, h, hs⟩
/-- Where the slice was the call's own, or nil, all that is older stands. -/
theorem App2.mine {w0 : World} (h : App2 w w' A A' c c') (ht : Turned (fun _ => False) w0 w) (hA : ∀ g, A = some ⟨g, 0, none⟩ → w0.heap.size ≤ g) : Turned (fun _ => False) w0 w' ∧ ∀ g, A' = some ⟨g, 0, none⟩ → w0.heap.size ≤ g := by
  rcases h with ⟨rfl, _, _, h⟩ | ⟨rfl, h⟩
  · exact ⟨ht.trans h (fun _ e => e) (fun g e => .inr (hA g e)), hA⟩
  · exact ⟨ht.trans h (fun _ e => e) (fun _ e => e.elim), fun g e => by injection e with e; injection e with e; have := ht.size; omega⟩
end
section
variable {P : Program} {w : World} {S U q bytes : Nat} {z : Value} {A : Option Addr} {n c : Nat} {xs : List Value}
/-- append, by whether there was room. -/
theorem run_appE (E : EltT P S U q bytes z) {ty : TypeId} (h : OwnE w U q A n c xs) (ad : Addr) (m cc : Nat) (ys : List Value) (hl : ys.length = m * q) (hnews : ∀ j u, ys[j]? = some u → w.cell? (ad.add j) = some u) (h1 : ∀ u ∈ ys, u.oneCell' = true) (hm : 0 < m) (hmx : n + m ≤ maxLen) (hb : (n + m) * bytes ≤ 140737488355328) :
    ∃ A' c' w', (Builtin.append_ #[S, S] ty #[.slice A n c, .slice (some ad) m cc]).run P w = .ok (.slice A' (n + m) c') w' ∧ OwnE w' U q A' (n + m) c' (xs ++ ys) ∧ App2 w w' A A' c c' := by
  obtain ⟨i, hi, hz0, hz1, hz2⟩ := info_parts E.info
  rcases h.row_or with ⟨rfl, rfl, rfl, rfl⟩ | ⟨g, rfl, hr⟩
  · obtain ⟨g, cap, w', hrun, h2, h3, h4, h5⟩ := run_append_lies (P := P) w S ty 0 U i z q bytes E.und hi hz0 hz1 hz2 E.size E.pos _ 0 [] (World.ownsRow_nil w 0 U q) ad m cc ys hl hnews h1 hm hmx hb (Nat.zero_le _) _ rfl
    rcases h4 with h4 | h4
    · cases h4
    · subst h4
      exact ⟨_, cap, w', hrun, h2, .inr ⟨rfl, (Turned.refl _ w).grown h3 (fun k e => by cases e)⟩⟩
  · by_cases hroom : n + m ≤ c
    · obtain ⟨w', hrun, h2, h3⟩ := run_append_fits (P := P) w 0 S ty U i q E.und hi hz1 g n c xs h ad m cc ys hl hnews h1 hroom
      exact ⟨_, c, w', hrun, h2, .inl ⟨rfl, rfl, by simp, (Turned.refl _ w).grown h3 (fun k e => by injection e with e; subst e; exact .inl rfl)⟩⟩
    · have hle := hr.le
      have hxl := hr.len
      have hrun := run_append_grow (P := P) w S ty U i z E.und hi hz0 ⟨g, 0, none⟩ n c xs (by rw [hxl, hz1]) (hr.celR.news _ rfl) ad m cc ys (by rw [hl, hz1]) hnews (by omega) (by unfold maxLen at hmx; omega) (by rw [hz2]; exact growslice_fits (by omega) hb)
      have hge := grownCap_ge w (n + m) c U
      have hcm : grownCap w (n + m) c U ≤ maxLen := grownCap_le_maxLen w (n + m) c U hmx
      refine ⟨_, _, _, hrun, OwnE.of_row ⟨by rw [List.length_append, hxl, hl, Nat.add_mul], hge, hcm, _, heap_alloc_new w.drew _, ?_, ?_⟩, .inr ⟨rfl, (Turned.refl _ w).drew.alloc _⟩⟩
      · simp only [Array.size_append, List.size_toArray, size_zeroCells, hxl, hl, E.size]
        rw [← Nat.add_mul, ← Nat.add_mul]
        congr 1
        omega
      · simp only [Array.toList_append]
        rw [List.take_left' (by simp [hxl, hl, Nat.add_mul])]
theorem wpList_appE {ops : Array Oper} {rest : List Oper} {o : Oper} {a : Act} {Q : Exit → Act → World → Prop} (E : EltT P S U q bytes z) (hgd : o.guard = none) (s x : Operand) (ho : o.op = .call { callee := .builtin .append, args := #[s, x], argTypes := #[S, S] })
    (h : OwnE w U q A n c xs) (ad : Addr) (m cc : Nat) (ys : List Value) (hl : ys.length = m * q) (hnews : ∀ j u, ys[j]? = some u → w.cell? (ad.add j) = some u) (h1 : ∀ u ∈ ys, u.oneCell' = true) (hm : 0 < m) (hmx : n + m ≤ maxLen) (hb : (n + m) * bytes ≤ 140737488355328) (hs : a.eval s = .slice A n c) (hx : a.eval x = .slice (some ad) m cc)
    (hC : ∀ A' c' w', OwnE w' U q A' (n + m) c' (xs ++ ys) → App2 w w' A A' c c' → wpList P ops Q rest (a.put o.dst (.slice A' (n + m) c')) w') : wpList P ops Q (o :: rest) a w := by
  obtain ⟨A', c', w', hrun, h2, h3⟩ := run_appE (ty := o.type) E h ad m cc ys hl hnews h1 hm hmx hb
  exact Lib.wpList_append_run w hgd s x S S ho _ _ hs hx _ _ hrun (hC A' c' w' h2 h3)
/-- append of nothing to a row of one's own. -/
theorem wpList_appE0 {ops : Array Oper} {rest : List Oper} {o : Oper} {a : Act} {Q : Exit → Act → World → Prop} {g : Nat} (E : EltT P S U q bytes z) (hgd : o.guard = none) (s x : Operand) (ho : o.op = .call { callee := .builtin .append, args := #[s, x], argTypes := #[S, S] })
    (h : OwnE w U q (some ⟨g, 0, none⟩) n c xs) (Ax : Option Addr) (cc : Nat) (hnil : Ax = none → cc = 0) (hs : a.eval s = .slice (some ⟨g, 0, none⟩) n c) (hx : a.eval x = .slice Ax 0 cc)
    (hC : ∀ w', OwnE w' U q (some ⟨g, 0, none⟩) n c xs → Turned (· = g) w w' → wpList P ops Q rest (a.put o.dst (.slice (some ⟨g, 0, none⟩) n c)) w') : wpList P ops Q (o :: rest) a w := by
  obtain ⟨i0, hi, hz0, hz1, hz2⟩ := info_parts E.info
  refine wpList_append_fits_any w hgd s x S ho 0 U i0 q E.und hi hz1 g n c xs hs h Ax 0 cc [] hx (by simp) (fun e => ⟨rfl, hnil e⟩) (fun ad e j u hu => by simp at hu) (by simp) (by have := h.max; omega) ?_
  intro w2 hown2 hg2
  rw [List.append_nil] at hown2
  exact hC _ hown2 ((Turned.refl _ w).grown hg2 (fun k e => by injection e with e; subst e; exact rfl |> .inl))
end
end Go.Proofs.YtglojnmcbochaaaGreatDoor

