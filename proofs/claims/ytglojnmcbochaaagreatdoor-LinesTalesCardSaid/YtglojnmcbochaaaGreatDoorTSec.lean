/-
  ytglojnmcbochaaagreatdoor: laws and walks on the road to LinesTales, joined: Mem Sec. Conditions stand at each theorem.
-/
import Derived.WalkKit
import Derived.Maps.RangeWalk
import Derived.WalkLawsBesides
import Derived.WalkSpells
import Derived.Deep.MidRow
import Derived.Deep.WholeRow
import Derived.Deep.AppendLies
import Derived.Lib.Hide
namespace Go.Proofs.YtglojnmcbochaaaGreatDoor
open Go.RowKit Go.Maps

/-- Nothing that was there has turned but blocks of W; the streams are as they were. -/
structure Turned (W : Nat → Prop) (w w' : World) : Prop where
  os : w'.os = w.os
  tape : w'.tape = w.tape
  output : w'.output = w.output
  size : w.heap.size ≤ w'.heap.size
  block : ∀ k, k < w.heap.size → ¬ W k → w'.heap[k]? = w.heap[k]?

theorem Turned.refl (W : Nat → Prop) (w : World) : Turned W w w := ⟨rfl, rfl, rfl, Nat.le_refl _, fun _ _ _ => rfl⟩
theorem Turned.trans {W W1 W2 : Nat → Prop} {a b c : World} (h : Turned W1 a b) (k : Turned W2 b c) (h1 : ∀ i, W1 i → W i) (h2 : ∀ i, W2 i → W i ∨ a.heap.size ≤ i) : Turned W a c :=
  ⟨k.os.trans h.os, k.tape.trans h.tape, k.output.trans h.output, Nat.le_trans h.size k.size, fun i hi hn =>
    (k.block i (Nat.lt_of_lt_of_le hi h.size) (fun e => by
      rcases h2 i e with h3 | h3
      · exact hn h3
      · omega)).trans (h.block i hi (fun e => hn (h1 i e)))⟩
theorem Turned.and_ {a b c : World} (h : Turned (fun _ => False) a b) (k : Turned (fun _ => False) b c) : Turned (fun _ => False) a c := h.trans (W := fun _ => False) k (fun _ e => e) (fun _ e => e.elim)
theorem Turned.mono {W W' : Nat → Prop} {a b : World} (h : Turned W a b) (h1 : ∀ i, W i → W' i ∨ a.heap.size ≤ i) : Turned W' a b :=
  ⟨h.os, h.tape, h.output, h.size, fun i hi hn => h.block i hi (fun e => by
    rcases h1 i e with h3 | h3
    · exact hn h3
    · omega)⟩
theorem Turned.drewN {W : Nat → Prop} {a b : World} (h : Turned W a b) (n : Nat) : Turned W a (b.drewN n) := ⟨h.os, h.tape, h.output, h.size, h.block⟩
theorem Turned.drew {W : Nat → Prop} {a b : World} (h : Turned W a b) : Turned W a b.drew := ⟨h.os, h.tape, h.output, h.size, h.block⟩
theorem Turned.alloc {W : Nat → Prop} {a b : World} (h : Turned W a b) (o : Obj) : Turned W a (b.alloc o) :=
  ⟨h.os, h.tape, h.output, Nat.le_trans h.size (by simp), fun k hk hn => (Below.heap_alloc b o k (Nat.lt_of_lt_of_le hk h.size)).trans (h.block k hk hn)⟩
theorem Turned.setCell {W : Nat → Prop} {a b : World} (h : Turned W a b) {p : Addr} (hp : W p.block ∨ a.heap.size ≤ p.block) (u : Value) : Turned W a (b.setCell p u) :=
  ⟨h.os, h.tape, h.output, by simpa [World.setCell] using h.size, fun k hk hn => (Below.heap_setCell b p u k (by
    rintro rfl
    rcases hp with hp | hp
    · exact hn hp
    · omega)).trans (h.block k hk hn)⟩
theorem Turned.grown {W : Nat → Prop} {a b c : World} {row : Option Nat} (h : Turned W a b) (hg : b.grownBy c row) (hr : ∀ k, row = some k → W k ∨ a.heap.size ≤ k) : Turned W a c :=
  ⟨hg.os.trans h.os, hg.tape.trans h.tape, hg.output.trans h.output, Nat.le_trans h.size hg.size, fun k hk hn =>
    (hg.block k (Nat.lt_of_lt_of_le hk h.size) (fun e => by
      rcases hr k e.symm with h3 | h3
      · exact hn h3
      · omega)).trans (h.block k hk hn)⟩
theorem Turned.below {W : Nat → Prop} {a b : World} (h : Turned W a b) (hW : ∀ i, W i → a.heap.size ≤ i) : Below a.heap.size a b :=
  ⟨h.os, h.tape, h.output, h.size, fun k hk => h.block k hk (fun e => by have := hW k e; omega)⟩
theorem Turned.of_below {a b : World} (h : Below a.heap.size a b) (W : Nat → Prop) : Turned W a b := ⟨h.os, h.tape, h.output, h.size, fun k hk _ => h.block k hk⟩

/-- Block g is just the cells cs of element type t, none frozen. -/
def Blk (w : World) (g : Nat) (t : TypeId) (cs : Array Value) : Prop := w.heap[g]? = some (.cells cs t (0, 0))

section
variable {w w' : World} {g : Nat} {t : TypeId} {cs : Array Value}
theorem Blk.lt (h : Blk w g t cs) : g < w.heap.size := by
  rcases Nat.lt_or_ge g w.heap.size with hlt | hge
  · exact hlt
  · unfold Blk at h; rw [Array.getElem?_eq_none hge] at h; cases h
theorem Blk.cell (h : Blk w g t cs) (i : Nat) : w.cell? ⟨g, i, none⟩ = cs[i]? := cell_of_row w g i cs t (0, 0) h
theorem Blk.frozen (h : Blk w g t cs) (i : Nat) : w.frozen? ⟨g, i, none⟩ = false := by
  unfold Blk at h
  simp [World.frozen?, h]
theorem Blk.cells11 {a0 a1 a2 a3 a4 a5 a6 a7 a8 a9 a10 : Value} (h : Blk w g t #[a0, a1, a2, a3, a4, a5, a6, a7, a8, a9, a10]) : w.cell? ⟨g, 0, none⟩ = some a0 ∧ w.cell? ⟨g, 1, none⟩ = some a1 ∧ w.cell? ⟨g, 2, none⟩ = some a2 ∧ w.cell? ⟨g, 3, none⟩ = some a3 ∧ w.cell? ⟨g, 4, none⟩ = some a4 ∧ w.cell? ⟨g, 5, none⟩ = some a5 ∧ w.cell? ⟨g, 6, none⟩ = some a6 ∧ w.cell? ⟨g, 7, none⟩ = some a7 ∧ w.cell? ⟨g, 8, none⟩ = some a8 ∧ w.cell? ⟨g, 9, none⟩ = some a9 ∧ w.cell? ⟨g, 10, none⟩ = some a10 :=
  ⟨h.cell 0, h.cell 1, h.cell 2, h.cell 3, h.cell 4, h.cell 5, h.cell 6, h.cell 7, h.cell 8, h.cell 9, h.cell 10⟩
theorem Blk.new (w : World) (t : TypeId) (cs : Array Value) : Blk (w.alloc (.cells cs t)) w.heap.size t cs := heap_alloc_new w _
theorem Blk.new_at {k : Nat} (w : World) (t : TypeId) (cs : Array Value) (h : w.heap.size = k) : Blk (w.alloc (.cells cs t)) k t cs := by subst h; exact heap_alloc_new w _
theorem Blk.drewN (h : Blk w g t cs) (n : Nat) : Blk (w.drewN n) g t cs := h
theorem Blk.drew (h : Blk w g t cs) : Blk w.drew g t cs := h
theorem Blk.alloc (h : Blk w g t cs) (o : Obj) : Blk (w.alloc o) g t cs := (Below.heap_alloc w o g h.lt).trans h
theorem Blk.set_ (h : Blk w g t cs) (i : Nat) (u : Value) : Blk (w.setCell ⟨g, i, none⟩ u) g t (cs.setIfInBounds i u) := by
  unfold Blk at h ⊢
  simp [World.setCell, Array.getElem?_modify, h]
theorem Blk.far (h : Blk w g t cs) {p : Addr} (hp : g ≠ p.block) (u : Value) : Blk (w.setCell p u) g t cs := (Below.heap_setCell w p u g hp).trans h
theorem Blk.grown {row : Option Nat} (h : Blk w g t cs) (hb : w.grownBy w' row) (hg : some g ≠ row) : Blk w' g t cs := (hb.block g h.lt hg).trans h
theorem Blk.turned {W : Nat → Prop} (h : Blk w g t cs) (hb : Turned W w w') (hg : ¬ W g) : Blk w' g t cs := (hb.block g h.lt hg).trans h
theorem Blk.ne_ {g' : Nat} {t' : TypeId} {cs' : Array Value} (h : Blk w g t cs) (h' : Blk w g' t' cs') (hne : t ≠ t') : g ≠ g' := by
  rintro rfl
  unfold Blk at h h'
  rw [h] at h'
  injection h' with h'
  injection h' with _ ht
  exact hne ht
theorem Blk.inj {cs' : Array Value} {t' : TypeId} (h : Blk w g t cs) (h' : Blk w g t' cs') : cs = cs' ∧ t = t' := by
  unfold Blk at h h'
  rw [h] at h'
  injection h' with h'
  injection h' with h1 h2
  exact ⟨h1, h2⟩
end

/-- A map's block stays what it is. -/
theorem ownsMap_turned {H : Type} {P : Program} {k : TypeId} {R : Value → Option (DataW H × List MemPlace)} {w w' : World} {b n : Nat} {D : DataW H} {W : Nat → Prop} (h : w.ownsMap P k R b n D) (hb : Turned W w w') (hg : ¬ W b) : w'.ownsMap P k R b n D := by
  have hlt := h.lt
  obtain ⟨es, clock, hh, r⟩ := h
  exact ⟨es, clock, (hb.block b hlt hg).trans hh, r⟩

/-- The numbers as bytes in memory. -/
def u8s (zs : List Int) : List Value := zs.map (Value.int .u8)
theorem u8s_length (zs : List Int) : (u8s zs).length = zs.length := by simp [u8s]
end Go.Proofs.YtglojnmcbochaaaGreatDoor

namespace Go.Proofs.YtglojnmcbochaaaGreatDoor
open Go.RowKit Go.Maps
open Go.WideElems (Fit rd rg pl rd_key rd_val rg_of)

def isByte (z : Int) : Prop := 0 ≤ z ∧ z ≤ 255
instance (z : Int) : Decidable (isByte z) := inferInstanceAs (Decidable (_ ∧ _))
/-- A list that is a sector's. -/
structure Sec (zs : List Int) : Prop where
  len : zs.length = 512
  byte : ∀ z ∈ zs, isByte z
def secV (zs : List Int) : Value := .agg (u8s zs).toArray
def noughts : List Int := List.replicate 512 0
def u8Of : Value → Option Int
  | .int .u8 z => some z
  | _ => none
/-- How an array of 512 bytes reads. -/
def secR (v : Value) : Option (DataW (List Int) × List MemPlace) :=
  match v with
  | .agg c => (match c.toList.mapM u8Of with
    | some zs => if zs.length = 512 ∧ zs.all (fun z => decide (isByte z)) = true then some (.held zs, []) else none
    | none => none)
  | _ => none
theorem mapM_u8 : ∀ zs : List Int, (u8s zs).mapM u8Of = some zs
  | [] => rfl
  | z :: r => by
    have := mapM_u8 r
    simp only [u8s, List.map_cons] at this ⊢
    simp [List.mapM_cons, u8Of, this]
theorem mapM_u8_inv : ∀ (l : List Value) (zs : List Int), l.mapM u8Of = some zs → l = u8s zs
  | [], zs, h => by simp at h; subst h; rfl
  | v :: r, zs, h => by
    simp only [List.mapM_cons, Option.bind_eq_bind, Option.bind_eq_some_iff, Option.pure_def, Option.some.injEq] at h
    obtain ⟨z, hz, ys, hy, rfl⟩ := h
    have := mapM_u8_inv r ys hy
    cases v <;> simp [u8Of] at hz
    rename_i k n
    cases k <;> simp at hz
    subst hz this
    rfl
theorem secR_mk {zs : List Int} (h : Sec zs) : secR (secV zs) = some (.held zs, []) := by
  unfold secR secV
  simp only [mapM_u8]
  rw [if_pos ⟨h.len, by simpa [List.all_eq_true] using h.byte⟩]
theorem secR_inv {v : Value} {y : DataW (List Int) × List MemPlace} (h : secR v = some y) : ∃ zs, v = secV zs ∧ Sec zs ∧ y = (.held zs, []) := by
  unfold secR at h
  split at h
  · rename_i c
    split at h
    · rename_i zs hz
      split at h
      · rename_i hc
        have e := mapM_u8_inv _ _ hz
        refine ⟨zs, ?_, ⟨hc.1, by simpa [List.all_eq_true] using hc.2⟩, by simpa using h.symm⟩
        unfold secV
        rw [← e]
      · cases h
    · cases h
  · cases h

def mview (D : DataW (List Int)) (k : Int) : Option (List Int) :=
  match D.atKey (.int .i64 k) .nil with
  | .held zs => some zs
  | _ => none
def upd {β : Type} (f : Int → β) (k : Int) (x : β) : Int → β := fun j => if j = k then x else f j
theorem wf_of (k : Int) (h1 : -9223372036854775808 ≤ k) (h2 : k ≤ 9223372036854775807) : (Lit.int .i64 k).wf = true := WalkArith.wf_i64 ⟨h1, h2⟩

/-- Block b of w is a map that reads as f. -/
def MapIs (P : Program) (K : TypeId) (w : World) (b : Nat) (f : Int → Option (List Int)) : Prop :=
  ∃ n D, w.ownsMap P K secR b n D ∧ ∀ k, (Lit.int .i64 k).wf = true → mview D k = f k

section
variable {P : Program} {K E T : TypeId} {w w' : World} {b : Nat} {f : Int → Option (List Int)}
theorem MapIs.lt (h : MapIs P K w b f) : b < w.heap.size := let ⟨_, _, ho, _⟩ := h; ho.lt
theorem MapIs.turned {W : Nat → Prop} (h : MapIs P K w b f) (hb : Turned W w w') (hg : ¬ W b) : MapIs P K w' b f :=
  let ⟨n, D, ho, hv⟩ := h; ⟨n, D, ownsMap_turned ho hb hg, hv⟩
theorem MapIs.grown {row : Option Nat} (h : MapIs P K w b f) (hg : w.grownBy w' row) (hne : some b ≠ row) : MapIs P K w' b f :=
  let ⟨n, D, ho, hv⟩ := h; ⟨n, D, ho.kept hg hne, hv⟩
theorem MapIs.alloc (h : MapIs P K w b f) (o : Obj) : MapIs P K (w.alloc o) b f :=
  let ⟨n, D, ho, hv⟩ := h; ⟨n, D, ho.alloc o, hv⟩
theorem MapIs.setCell (h : MapIs P K w b f) {a : Addr} (ha : b ≠ a.block) (u : Value) : MapIs P K (w.setCell a u) b f :=
  let ⟨n, D, ho, hv⟩ := h; ⟨n, D, ho.setCell ha u, hv⟩
theorem MapIs.drewN (h : MapIs P K w b f) (n : Nat) : MapIs P K (w.drewN n) b f := h
theorem MapIs.drew (h : MapIs P K w b f) : MapIs P K w.drew b f := h
theorem MapIs.made (w : World) (P : Program) (K : TypeId) : MapIs P K (w.alloc (.map #[] 0)) w.heap.size (fun _ => none) :=
  ⟨0, .map [], World.ownsMap_made _ _ _ _, fun _ _ => rfl⟩
theorem MapIs.congr {g : Int → Option (List Int)} (h : MapIs P K w b f) (e : ∀ k, f k = g k) : MapIs P K w b g := by
  have : f = g := funext e
  rw [← this]; exact h

theorem mview_put (D : DataW (List Int)) (hD : IsMap D) (k : Int) (zs : List Int) (j : Int) : mview (D.put (.int .i64 k) (.held zs)) j = if j = k then some zs else mview D j := by
  unfold mview
  by_cases h : j = k
  · subst h
    rw [atKey_put_same (k := .int .i64 j) hD trivial, if_pos rfl]
  · rw [atKey_put_other (by intro e; injection e with _ e; exact h e), if_neg h]

/-- What the look-up gives, and what 'has' and the view say of one key. -/
theorem ownsMap_at {n : Nat} {D : DataW (List Int)} (h : w.ownsMap P K secR b n D) (hK : P.underlying K = some (.int .i64)) {k : Int} (hk : (Lit.int .i64 k).wf = true) :
    (mview D k = none ∧ has D (.int .i64 k) = false) ∨ ∃ zs, mview D k = some zs ∧ has D (.int .i64 k) = true ∧ Sec zs ∧ ∀ zd, D.atKey (.int .i64 k) zd = .held zs := by
  obtain ⟨es, clock, hb, F, _, rfl⟩ := h
  have law := int_keyed hK
  have hat := WideShapes.atKey_sorted (es.toList.map (rg P K secR)) (fit_rising law F) (.int .i64 k) trivial
  rcases law.find w (keyOf_int_mk hK hk) es.toList F.keys with ⟨h1, h2⟩ | ⟨j, e0, h1, h2, h3⟩
  · left
    have h0 : ∀ zd, (DataW.map ((es.toList.map (rg P K secR)).foldr DataW.insert [])).atKey (.int .i64 k) zd = zd := by
      refine hat.1 (fun p hp e1 => ?_)
      obtain ⟨x, hx, rfl⟩ := List.mem_map.1 hp
      obtain ⟨y, hy⟩ := F.reads x hx
      rw [rg_of hy] at e1
      have := rd_key hy
      rw [e1] at this
      exact h2 x hx (law.inj this (keyOf_int_mk hK hk))
    exact ⟨by simp [mview, h0], has_false_of_atKey h0⟩
  · right
    have hm : e0 ∈ es.toList := List.mem_of_getElem? h2
    obtain ⟨y, hy⟩ := F.reads e0 hm
    obtain ⟨z, hz, hzd⟩ := rd_val hy
    obtain ⟨zs, _, hs, rfl⟩ := secR_inv hz
    have hkey := rd_key hy
    rw [h3, keyOf_int_mk hK hk] at hkey
    have h0 : ∀ zd, (DataW.map ((es.toList.map (rg P K secR)).foldr DataW.insert [])).atKey (.int .i64 k) zd = .held zs := by
      intro zd
      rw [hat.2 (rg P K secR e0) (List.mem_map.2 ⟨e0, hm, rfl⟩) (by rw [rg_of hy]; exact (Option.some.inj hkey).symm), rg_of hy, hzd]
    exact ⟨zs, by simp [mview, h0], has_true_of_atKey h0, hs, h0⟩

theorem length_two (N : Nat) : ∀ l : List Nat, l.length = (l.filter (· == N)).length + (l.filter (· ≠ N)).length
  | [] => rfl
  | x :: r => by
    have := length_two N r
    by_cases h : x = N
    · simp [h]; simp at this; omega
    · simp [h]; simp at this; omega
/-- Few keys: few entries. -/
theorem nodup_below : ∀ (N : Nat) (l : List Nat), l.Nodup → (∀ x ∈ l, x < N) → l.length ≤ N
  | 0, l, _, h => by
    cases l with
    | nil => simp
    | cons x r => exact absurd (h x (by simp)) (by omega)
  | N + 1, l, hd, h => by
    have h1 : (l.filter (· ≠ N)).length ≤ N := nodup_below N _ (hd.filter _) (fun x hx => by
      obtain ⟨hx1, hx2⟩ := List.mem_filter.1 hx
      have := h x hx1
      have : x ≠ N := by simpa using hx2
      omega)
    have h2 : l.length ≤ (l.filter (· ≠ N)).length + 1 := by
      have h3 : (l.filter (· == N)).length ≤ 1 := by
        have : (l.filter (· == N)).Nodup := hd.filter _
        match hl : l.filter (· == N), this with
        | [], _ => simp
        | [x], _ => simp
        | x :: y :: r, hn =>
          have hx : x ∈ l.filter (· == N) := by rw [hl]; simp
          have hy : y ∈ l.filter (· == N) := by rw [hl]; simp
          have hx' := (List.mem_filter.1 hx).2
          have hy' := (List.mem_filter.1 hy).2
          simp at hx' hy' hn
          exact absurd (hx'.trans hy'.symm) hn.1.1
      have h4 := length_two N l
      omega
    omega

theorem MapIs.bound (h : MapIs P K w b f) (hK : P.underlying K = some (.int .i64)) {N : Nat} (hf : ∀ k, f k ≠ none → 0 ≤ k ∧ k < N) : ∃ D, w.ownsMap P K secR b N D ∧ ∀ k, (Lit.int .i64 k).wf = true → mview D k = f k := by
  obtain ⟨n, D, ho, hv⟩ := h
  obtain ⟨es, clock, hb, F, _, hD⟩ := id ho
  refine ⟨D, ⟨es, clock, hb, F, ?_, hD⟩, hv⟩
  have key : ∀ x ∈ es.toList, ∃ k, x.key = .int .i64 k ∧ 0 ≤ k ∧ k < N := by
    intro x hx
    obtain ⟨y, hy⟩ := F.reads x hx
    obtain ⟨k, hk1, hk2, hwf⟩ := keyOf_int_inv hK (rd_key hy)
    have hh : has D (.int .i64 k) = true := by
      rw [hD]
      exact List.any_eq_true.2 ⟨rg P K secR x, mem_sorted.2 (List.mem_map.2 ⟨x, hx, rfl⟩), by rw [rg_of hy, hk2]; exact WideAt.sameKey_self trivial⟩
    rcases ownsMap_at ho hK hwf with ⟨_, h2⟩ | ⟨zs, h2, _⟩
    · rw [hh] at h2; cases h2
    · rw [hv k hwf] at h2
      have := hf k (by rw [h2]; simp)
      exact ⟨k, hk1, this.1, this.2⟩
  have hst := ((MapKept.stamped_iff es clock).1 F.stamped).2.2
  have hl := nodup_below N (es.toList.map (fun x => (intOf x.key).toNat)) (by
    rw [List.Nodup, List.pairwise_map]
    refine List.Pairwise.imp_of_mem ?_ hst
    intro x y hx hy hne e
    obtain ⟨k, hk, h0, _⟩ := key x hx
    obtain ⟨j, hj, h1, _⟩ := key y hy
    rw [hk, hj] at e
    simp only [intOf] at e
    exact hne (by rw [hk, hj, show k = j by omega])) (by
    intro m hm
    obtain ⟨x, hx, rfl⟩ := List.mem_map.1 hm
    obtain ⟨k, hk, h0, h1⟩ := key x hx
    rw [hk]
    simp only [intOf]
    omega)
  simpa using hl
end

section
variable {P : Program} (w : World) {K E T : TypeId} {ops : Array Oper} {rest : List Oper} {o : Oper} {a : Act} {Q : Exit → Act → World → Prop} {b : Nat} {f : Int → Option (List Int)}

/-- 'v, ok := m[k]' and 'm[k]': the run's equation. -/
theorem MapIs.look (h : MapIs P K w b f) (hK : P.underlying K = some (.int .i64)) (hT : P.underlying T = some (.map K E)) (hz : (zeroValue E).run P w = .ok (secV noughts) w) {k : Int} (hk : (Lit.int .i64 k).wf = true) (c : Bool) :
    (Instr.lookup T (.map (some b)) (.int .i64 k) c).run P w = .ok (if c then .tuple #[secV ((f k).getD noughts), .bool (f k).isSome] else secV ((f k).getD noughts)) w := by
  obtain ⟨n, D, ho, hv⟩ := h
  obtain ⟨es, clock, hb, F, _, hD⟩ := id ho
  have law := int_keyed hK
  have h0 := ownsMap_at ho hK hk
  rw [hv k hk] at h0
  rcases fit_look c law hT hz hb F (keyOf_int_mk hK hk) with ⟨hrun, _, hat⟩ | ⟨e0, y, _, _, hrun, hRv, hat, _⟩
  · rcases h0 with ⟨h1, _⟩ | ⟨zs, h1, h2, _, h3⟩
    · rw [hrun, h1]; simp
    · rw [← hD] at hat
      have := has_false_of_atKey hat
      rw [h2] at this; cases this
  · obtain ⟨zs, hzv, hs, rfl⟩ := secR_inv hRv
    rw [← hD] at hat
    rcases h0 with ⟨_, h2⟩ | ⟨zs', h1, h2, _, h3⟩
    · have := has_true_of_atKey hat
      rw [h2] at this; cases this
    · have : DataW.held zs = .held zs' := (hat .nil).symm.trans (h3 .nil)
      injection this with this
      subst this
      rw [hrun, h1, hzv]; simp

/-- 'm[k] = v'. -/
theorem MapIs.store (h : MapIs P K w b f) (hK : P.underlying K = some (.int .i64)) (hT : P.underlying T = some (.map K E)) {N : Nat} (hN : N < 9223372036854775807) (hf : ∀ k, f k ≠ none → 0 ≤ k ∧ k < N) {k : Int} (hk : (Lit.int .i64 k).wf = true) {zs : List Int} (hs : Sec zs) :
    ∃ w', (Instr.mapUpdate T (.map (some b)) (.int .i64 k) (secV zs)).run P w = .ok () w' ∧ MapIs P K w' b (upd f k (some zs)) ∧ w.grownBy w' (some b) := by
  obtain ⟨D, ho, hv⟩ := h.bound hK hf
  obtain ⟨w', hrun, ho', hg⟩ := ho.update (int_keyed hK) hT (by unfold maxLen; omega) (keyOf_int_mk hK hk) (secR_mk hs)
  exact ⟨w', hrun, ⟨_, _, ho', fun j hj => by rw [mview_put _ ho.isMap, hv j hj]; rfl⟩, hg⟩

theorem MapIs.clear (h : MapIs P K w b f) (hT : P.underlying T = some (.map K E)) (ty : TypeId) :
    ∃ w', (Builtin.clear_ #[T] ty #[.map (some b)]).run P w = .ok (.tuple #[]) w' ∧ MapIs P K w' b (fun _ => none) ∧ w.grownBy w' (some b) := by
  obtain ⟨n, D, ho, hv⟩ := h
  obtain ⟨es, clock, hb, F, _, hD⟩ := ho
  refine ⟨ChangeMaps.setBlock w b (.map #[] clock), ?_, ⟨0, .map [], ⟨#[], clock, ChangeMaps.heap_setBlock_same hb _, ⟨by simp, ?_, by simp⟩, Nat.le_refl _, rfl⟩, fun _ _ => rfl⟩, ⟨rfl, rfl, rfl, by simp [ChangeMaps.setBlock], fun i _ hi => ChangeMaps.heap_setBlock_other hb _ (fun e => hi (by rw [e]))⟩⟩
  · simp [Builtin.clear_, run_underlying hT, MapKept.run_getObj_map hb, MapKept.run_setObj_map _ hb, Result.andThen, ChangeMaps.setBlock]
  · exact (MapKept.stamped_iff _ _).2 (by simp)

end
end Go.Proofs.YtglojnmcbochaaaGreatDoor

