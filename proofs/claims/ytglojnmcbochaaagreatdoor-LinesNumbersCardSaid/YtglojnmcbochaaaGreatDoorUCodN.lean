/-
 ytglojnmcbochaaagreatdoor: laws and walks on the road to LinesNumbers, joined: Mem Bits Sec BeP CodN. Conditions stand at each theorem.
-/
import Derived.WalkKit
import Derived.Maps.RangeWalk
import Derived.WalkLawsBesides
import Derived.WalkSpells
import Derived.Deep.MidRow
import Derived.Deep.WholeRow
import Derived.Deep.AppendLies
import Derived.Lib.Hide
import Derived.Laws.BitsLemmas
import Derived.Lib.AtoiAllCases
import Derived.Lib.ItoaNum
namespace Go.Proofs.YtglojnmcbochaaaGreatDoor
open Go.RowKit Go.Maps

theorem zA {α : Type _} {l : List α} {i : Nat} {a : α} : l.toArray.setIfInBounds i a = (l.set i a).toArray := List.setIfInBounds_toArray ..
theorem zB {α : Type _} {x : α} {xs : List α} {a : α} : (x :: xs).set 0 a = a :: xs := rfl
theorem zC {α : Type _} {x : α} {xs : List α} {i : Nat} {a : α} : (x :: xs).set (i + 1) a = x :: xs.set i a := rfl
theorem zD {a b : Bool} : ((a && b) = true) = (a = true ∧ b = true) := Bool.and_eq_true a b
theorem zE {p : Prop} [Decidable p] : (decide p = true) = p := decide_eq_true_eq
theorem zF {α β : Type _} {f : α → β} {a : α} {l : List α} : List.map f (a :: l) = f a :: List.map f l := rfl
theorem zG {α : Type _} {a : α} {k l : List α} : (a :: k) ++ l = a :: (k ++ l) := rfl
theorem zH {α : Type _} {l : List α} : [] ++ l = l := rfl
theorem zI {α : Type _} {a : α} {l : List α} : (a :: l)[0]? = some a := rfl
theorem zJ {α : Type _} {a : α} {l : List α} {i : Nat} : (a :: l)[i + 1]? = l[i]? := rfl
theorem hZ {p : Prop} (h : p) : Go.RowKit.Hid p := Go.Lib.hid h
structure Turned (W : Nat → Prop) (w w' : World) : Prop where
 os : w'.os = w.os
 tape : w'.tape = w.tape
 output : w'.output = w.output
 size : w.heap.size ≤ w'.heap.size
 block : ∀ k, k < w.heap.size → ¬ W k → w'.heap[k]? = w.heap[k]?

theorem Turned.refl (W : Nat → Prop) (w : World) : Turned W w w := ⟨rfl, rfl, rfl, Nat.le_refl _, fun _ _ _ => rfl⟩
theorem Turned.trans {W W1 W2 : Nat → Prop} {a b c : World} (h : Turned W1 a b) (k : Turned W2 b c) (h1 : ∀ i, W1 i → W i) (h2 : ∀ i, W2 i → W i ∨ a.heap.size ≤ i) : Turned W a c :=
 ⟨k.os.trans h.os, k.tape.trans h.tape, k.output.trans h.output, Nat.le_trans h.size k.size, fun i hi hn =>
  (k.block i (Nat.lt_of_lt_of_le hi h.size) (fun e => by
   rcases h2 i e with h3 | h3
   ·exact hn h3
   ·omega)).trans (h.block i hi (fun e => hn (h1 i e)))⟩
theorem Turned.and_ {a b c : World} (h : Turned (fun _ => False) a b) (k : Turned (fun _ => False) b c) : Turned (fun _ => False) a c := h.trans (W := fun _ => False) k (fun _ e => e) (fun _ e => e.elim)
theorem Turned.mono {W W' : Nat → Prop} {a b : World} (h : Turned W a b) (h1 : ∀ i, W i → W' i ∨ a.heap.size ≤ i) : Turned W' a b :=
 ⟨h.os, h.tape, h.output, h.size, fun i hi hn => h.block i hi (fun e => by
  rcases h1 i e with h3 | h3
  ·exact hn h3
  ·omega)⟩
theorem Turned.drewN {W : Nat → Prop} {a b : World} (h : Turned W a b) (n : Nat) : Turned W a (b.drewN n) := ⟨h.os, h.tape, h.output, h.size, h.block⟩
theorem Turned.drew {W : Nat → Prop} {a b : World} (h : Turned W a b) : Turned W a b.drew := ⟨h.os, h.tape, h.output, h.size, h.block⟩
theorem Turned.alloc {W : Nat → Prop} {a b : World} (h : Turned W a b) (o : Obj) : Turned W a (b.alloc o) :=
 ⟨h.os, h.tape, h.output, Nat.le_trans h.size (by simp), fun k hk hn => (Below.heap_alloc b o k (Nat.lt_of_lt_of_le hk h.size)).trans (h.block k hk hn)⟩
theorem Turned.setCell {W : Nat → Prop} {a b : World} (h : Turned W a b) {p : Addr} (hp : W p.block ∨ a.heap.size ≤ p.block) (u : Value) : Turned W a (b.setCell p u) :=
 ⟨h.os, h.tape, h.output, by simpa [World.setCell] using h.size, fun k hk hn => (Below.heap_setCell b p u k (by
  rintro rfl
  rcases hp with hp | hp
  ·exact hn hp
  ·omega)).trans (h.block k hk hn)⟩
theorem Turned.grown {W : Nat → Prop} {a b c : World} {row : Option Nat} (h : Turned W a b) (hg : b.grownBy c row) (hr : ∀ k, row = some k → W k ∨ a.heap.size ≤ k) : Turned W a c :=
 ⟨hg.os.trans h.os, hg.tape.trans h.tape, hg.output.trans h.output, Nat.le_trans h.size hg.size, fun k hk hn =>
  (hg.block k (Nat.lt_of_lt_of_le hk h.size) (fun e => by
   rcases hr k e.symm with h3 | h3
   ·exact hn h3
   ·omega)).trans (h.block k hk hn)⟩
theorem Turned.below {W : Nat → Prop} {a b : World} (h : Turned W a b) (hW : ∀ i, W i → a.heap.size ≤ i) : Below a.heap.size a b :=
 ⟨h.os, h.tape, h.output, h.size, fun k hk => h.block k hk (fun e => by have := hW k e; omega)⟩
theorem Turned.of_below {a b : World} (h : Below a.heap.size a b) (W : Nat → Prop) : Turned W a b := ⟨h.os, h.tape, h.output, h.size, fun k hk _ => h.block k hk⟩

def Blk (w : World) (g : Nat) (t : TypeId) (cs : Array Value) : Prop := w.heap[g]? = some (.cells cs t (0, 0))

section
variable {w w' : World} {g : Nat} {t : TypeId} {cs : Array Value}
theorem Blk.lt (h : Blk w g t cs) : g < w.heap.size := by
 rcases Nat.lt_or_ge g w.heap.size with hlt | hge
 ·exact hlt
 ·unfold Blk at h; rw [Array.getElem?_eq_none hge] at h; cases h
theorem Blk.cell (h : Blk w g t cs) (i : Nat) : w.cell? ⟨g, i, none⟩ = cs[i]? := cell_of_row w g i cs t (0, 0) h
theorem Blk.frozen (h : Blk w g t cs) (i : Nat) : w.frozen? ⟨g, i, none⟩ = false := by
 unfold Blk at h
 simp [World.frozen?, h]
theorem Blk.cells11 {a0 a1 a2 a3 a4 a5 a6 a7 a8 a9 a10 : Value} (h : Blk w g t #[a0, a1, a2, a3, a4, a5, a6, a7, a8, a9, a10]) : w.cell? ⟨g, 0, none⟩ = some a0 ∧ w.cell? ⟨g, 1, none⟩ = some a1 ∧ w.cell? ⟨g, 2, none⟩ = some a2 ∧ w.cell? ⟨g, 3, none⟩ = some a3 ∧ w.cell? ⟨g, 4, none⟩ = some a4 ∧ w.cell? ⟨g, 5, none⟩ = some a5 ∧ w.cell? ⟨g, 6, none⟩ = some a6 ∧ w.cell? ⟨g, 7, none⟩ = some a7 ∧ w.cell? ⟨g, 8, none⟩ = some a8 ∧ w.cell? ⟨g, 9, none⟩ = some a9 ∧ w.cell? ⟨g, 10, none⟩ = some a10 :=
 ⟨h.cell 0, h.cell 1, h.cell 2, h.cell 3, h.cell 4, h.cell 5, h.cell 6, h.cell 7, h.cell 8, h.cell 9, h.cell 10⟩
theorem Blk.new (w : World) (t : TypeId) (cs : Array Value) : Blk (w.alloc (.cells cs t)) w.heap.size t cs := heap_alloc_new w _
theorem Blk.new_at {k : Nat} (w : World) (t : TypeId) (cs : Array Value) (h : w.heap.size = k) : Blk (w.alloc (.cells cs t)) k t cs := by subst h; exact heap_alloc_new w _
theorem Blk.drewN (h : Blk w g t cs) (n : Nat) : Blk (w.drewN n) g t cs := h
theorem Blk.drew (h : Blk w g t cs) : Blk w.drew g t cs := h
theorem Blk.alloc (h : Blk w g t cs) (o : Obj) : Blk (w.alloc o) g t cs := (Below.heap_alloc w o g h.lt).trans h
theorem Blk.set_ (h : Blk w g t cs) (i : Nat) (u : Value) : Blk (w.setCell ⟨g, i, none⟩ u) g t (cs.setIfInBounds i u) := by
 unfold Blk at h ⊢
 simp [World.setCell, Array.getElem?_modify, h]
theorem Blk.far (h : Blk w g t cs) {p : Addr} (hp : g ≠ p.block) (u : Value) : Blk (w.setCell p u) g t cs := (Below.heap_setCell w p u g hp).trans h
theorem Blk.grown {row : Option Nat} (h : Blk w g t cs) (hb : w.grownBy w' row) (hg : some g ≠ row) : Blk w' g t cs := (hb.block g h.lt hg).trans h
theorem Blk.turned {W : Nat → Prop} (h : Blk w g t cs) (hb : Turned W w w') (hg : ¬ W g) : Blk w' g t cs := (hb.block g h.lt hg).trans h
theorem Blk.ne_ {g' : Nat} {t' : TypeId} {cs' : Array Value} (h : Blk w g t cs) (h' : Blk w g' t' cs') (hne : t ≠ t') : g ≠ g' := by
 rintro rfl
 unfold Blk at h h'
 rw [h] at h'
 injection h' with h'
 injection h' with _ ht
 exact hne ht
theorem Blk.inj {cs' : Array Value} {t' : TypeId} (h : Blk w g t cs) (h' : Blk w g t' cs') : cs = cs' ∧ t = t' := by
 unfold Blk at h h'
 rw [h] at h'
 injection h' with h'
 injection h' with h1 h2
 exact ⟨h1, h2⟩
end

theorem ownsMap_turned {H : Type} {P : Program} {k : TypeId} {R : Value → Option (DataW H × List MemPlace)} {w w' : World} {b n : Nat} {D : DataW H} {W : Nat → Prop} (h : w.ownsMap P k R b n D) (hb : Turned W w w') (hg : ¬ W b) : w'.ownsMap P k R b n D := by
 have hlt := h.lt
 obtain ⟨es, clock, hh, r⟩ := h
 exact ⟨es, clock, (hb.block b hlt hg).trans hh, r⟩

def u8s (zs : List Int) : List Value := zs.map (Value.int .u8)
theorem u8s_length (zs : List Int) : (u8s zs).length = zs.length := by simp [u8s]
end Go.Proofs.YtglojnmcbochaaaGreatDoor

namespace Go.Proofs.YtglojnmcbochaaaGreatDoor

end Go.Proofs.YtglojnmcbochaaaGreatDoor

namespace Go.Proofs.YtglojnmcbochaaaGreatDoor
open Go.RowKit Go.Maps
open Go.WideElems (Fit rd rg pl rd_key rd_val rg_of)

def isByte (z : Int) : Prop := 0 ≤ z ∧ z ≤ 255
instance (z : Int) : Decidable (isByte z) := inferInstanceAs (Decidable (_ ∧ _))
structure Sec (zs : List Int) : Prop where
 len : zs.length = 512
 byte : ∀ z ∈ zs, isByte z
def secV (zs : List Int) : Value := .agg (u8s zs).toArray
def noughts : List Int := List.replicate 512 0
def u8Of : Value → Option Int
 | .int .u8 z => some z
 | _ => none
def secR (v : Value) : Option (DataW (List Int) × List MemPlace) :=
 match v with
 | .agg c => (match c.toList.mapM u8Of with
  | some zs => if zs.length = 512 ∧ zs.all (fun z => decide (isByte z)) = true then some (.held zs, []) else none
  | none => none)
 | _ => none
theorem mapM_u8 : ∀ zs : List Int, (u8s zs).mapM u8Of = some zs
 | [] => rfl
 | z :: r => by
  have := mapM_u8 r
  simp only [u8s, zF] at this ⊢
  simp [List.mapM_cons, u8Of, this]
theorem mapM_u8_inv : ∀ (l : List Value) (zs : List Int), l.mapM u8Of = some zs → l = u8s zs
 | [], zs, h => by simp at h; subst h; rfl
 | v :: r, zs, h => by
  simp only [List.mapM_cons, Option.bind_eq_bind, Option.bind_eq_some_iff, Option.pure_def, Option.some.injEq] at h
  obtain ⟨z, hz, ys, hy, rfl⟩ := h
  have := mapM_u8_inv r ys hy
  cases v <;> simp [u8Of] at hz
  rename_i k n
  cases k <;> simp at hz
  subst hz this
  rfl
theorem secR_mk {zs : List Int} (h : Sec zs) : secR (secV zs) = some (.held zs, []) := by
 unfold secR secV
 simp only [mapM_u8]
 rw [if_pos ⟨h.len, by simpa [List.all_eq_true] using h.byte⟩]
theorem secR_inv {v : Value} {y : DataW (List Int) × List MemPlace} (h : secR v = some y) : ∃ zs, v = secV zs ∧ Sec zs ∧ y = (.held zs, []) := by
 unfold secR at h
 split at h
 ·rename_i c
  split at h
  ·rename_i zs hz
   split at h
   ·rename_i hc
    have e := mapM_u8_inv _ _ hz
    refine ⟨zs, ?_, ⟨hc.1, by simpa [List.all_eq_true] using hc.2⟩, by simpa using h.symm⟩
    unfold secV
    rw [← e]
   ·cases h
  ·cases h
 ·cases h

def mview (D : DataW (List Int)) (k : Int) : Option (List Int) :=
 match D.atKey (.int .i64 k) .nil with
 | .held zs => some zs
 | _ => none
def upd {β : Type} (f : Int → β) (k : Int) (x : β) : Int → β := fun j => if j = k then x else f j
theorem wf_of (k : Int) (h1 : -9223372036854775808 ≤ k) (h2 : k ≤ 9223372036854775807) : (Lit.int .i64 k).wf = true := WalkArith.wf_i64 ⟨h1, h2⟩

def MapIs (P : Program) (K : TypeId) (w : World) (b : Nat) (f : Int → Option (List Int)) : Prop :=
 ∃ n D, w.ownsMap P K secR b n D ∧ ∀ k, (Lit.int .i64 k).wf = true → mview D k = f k

section
variable {P : Program} {K E T : TypeId} {w w' : World} {b : Nat} {f : Int → Option (List Int)}
theorem MapIs.lt (h : MapIs P K w b f) : b < w.heap.size := let ⟨_, _, ho, _⟩ := h; ho.lt
theorem MapIs.turned {W : Nat → Prop} (h : MapIs P K w b f) (hb : Turned W w w') (hg : ¬ W b) : MapIs P K w' b f :=
 let ⟨n, D, ho, hv⟩ := h; ⟨n, D, ownsMap_turned ho hb hg, hv⟩
theorem MapIs.grown {row : Option Nat} (h : MapIs P K w b f) (hg : w.grownBy w' row) (hne : some b ≠ row) : MapIs P K w' b f :=
 let ⟨n, D, ho, hv⟩ := h; ⟨n, D, ho.kept hg hne, hv⟩
theorem MapIs.alloc (h : MapIs P K w b f) (o : Obj) : MapIs P K (w.alloc o) b f :=
 let ⟨n, D, ho, hv⟩ := h; ⟨n, D, ho.alloc o, hv⟩
theorem MapIs.setCell (h : MapIs P K w b f) {a : Addr} (ha : b ≠ a.block) (u : Value) : MapIs P K (w.setCell a u) b f :=
 let ⟨n, D, ho, hv⟩ := h; ⟨n, D, ho.setCell ha u, hv⟩
theorem MapIs.drewN (h : MapIs P K w b f) (n : Nat) : MapIs P K (w.drewN n) b f := h
theorem MapIs.drew (h : MapIs P K w b f) : MapIs P K w.drew b f := h
theorem MapIs.made (w : World) (P : Program) (K : TypeId) : MapIs P K (w.alloc (.map #[] 0)) w.heap.size (fun _ => none) :=
 ⟨0, .map [], World.ownsMap_made _ _ _ _, fun _ _ => rfl⟩
theorem MapIs.congr {g : Int → Option (List Int)} (h : MapIs P K w b f) (e : ∀ k, f k = g k) : MapIs P K w b g := by
 have : f = g := funext e
 rw [← this]; exact h

theorem mview_put (D : DataW (List Int)) (hD : IsMap D) (k : Int) (zs : List Int) (j : Int) : mview (D.put (.int .i64 k) (.held zs)) j = if j = k then some zs else mview D j := by
 unfold mview
 by_cases h : j = k
 ·subst h
  rw [atKey_put_same (k := .int .i64 j) hD trivial, if_pos rfl]
 ·rw [atKey_put_other (by intro e; injection e with _ e; exact h e), if_neg h]

theorem ownsMap_at {n : Nat} {D : DataW (List Int)} (h : w.ownsMap P K secR b n D) (hK : P.underlying K = some (.int .i64)) {k : Int} (hk : (Lit.int .i64 k).wf = true) :
  (mview D k = none ∧ has D (.int .i64 k) = false) ∨ ∃ zs, mview D k = some zs ∧ has D (.int .i64 k) = true ∧ Sec zs ∧ ∀ zd, D.atKey (.int .i64 k) zd = .held zs := by
 obtain ⟨es, clock, hb, F, _, rfl⟩ := h
 have law := int_keyed hK
 have hat := WideShapes.atKey_sorted (es.toList.map (rg P K secR)) (fit_rising law F) (.int .i64 k) trivial
 rcases law.find w (keyOf_int_mk hK hk) es.toList F.keys with ⟨h1, h2⟩ | ⟨j, e0, h1, h2, h3⟩
 ·left
  have h0 : ∀ zd, (DataW.map ((es.toList.map (rg P K secR)).foldr DataW.insert [])).atKey (.int .i64 k) zd = zd := by
   refine hat.1 (fun p hp e1 => ?_)
   obtain ⟨x, hx, rfl⟩ := List.mem_map.1 hp
   obtain ⟨y, hy⟩ := F.reads x hx
   rw [rg_of hy] at e1
   have := rd_key hy
   rw [e1] at this
   exact h2 x hx (law.inj this (keyOf_int_mk hK hk))
  exact ⟨by simp [mview, h0], has_false_of_atKey h0⟩
 ·right
  have hm : e0 ∈ es.toList := List.mem_of_getElem? h2
  obtain ⟨y, hy⟩ := F.reads e0 hm
  obtain ⟨z, hz, hzd⟩ := rd_val hy
  obtain ⟨zs, _, hs, rfl⟩ := secR_inv hz
  have hkey := rd_key hy
  rw [h3, keyOf_int_mk hK hk] at hkey
  have h0 : ∀ zd, (DataW.map ((es.toList.map (rg P K secR)).foldr DataW.insert [])).atKey (.int .i64 k) zd = .held zs := by
   intro zd
   rw [hat.2 (rg P K secR e0) (List.mem_map.2 ⟨e0, hm, rfl⟩) (by rw [rg_of hy]; exact (Option.some.inj hkey).symm), rg_of hy, hzd]
  exact ⟨zs, by simp [mview, h0], has_true_of_atKey h0, hs, h0⟩

theorem length_two (N : Nat) : ∀ l : List Nat, l.length = (l.filter (· == N)).length + (l.filter (· ≠ N)).length
 | [] => rfl
 | x :: r => by
  have := length_two N r
  by_cases h : x = N
  ·simp [h]; simp at this; omega
  ·simp [h]; simp at this; omega
theorem nodup_below : ∀ (N : Nat) (l : List Nat), l.Nodup → (∀ x ∈ l, x < N) → l.length ≤ N
 | 0, l, _, h => by
  cases l with
  | nil => simp
  | cons x r => exact absurd (h x (by simp)) (by omega)
 | N + 1, l, hd, h => by
  have h1 : (l.filter (· ≠ N)).length ≤ N := nodup_below N _ (hd.filter _) (fun x hx => by
   obtain ⟨hx1, hx2⟩ := List.mem_filter.1 hx
   have := h x hx1
   have : x ≠ N := by simpa using hx2
   omega)
  have h2 : l.length ≤ (l.filter (· ≠ N)).length + 1 := by
   have h3 : (l.filter (· == N)).length ≤ 1 := by
    have : (l.filter (· == N)).Nodup := hd.filter _
    match hl : l.filter (· == N), this with
    | [], _ => simp
    | [x], _ => simp
    | x :: y :: r, hn =>
     have hx : x ∈ l.filter (· == N) := by rw [hl]; simp
     have hy : y ∈ l.filter (· == N) := by rw [hl]; simp
     have hx' := (List.mem_filter.1 hx).2
     have hy' := (List.mem_filter.1 hy).2
     simp at hx' hy' hn
     exact absurd (hx'.trans hy'.symm) hn.1.1
   have h4 := length_two N l
   omega
  omega

theorem MapIs.bound (h : MapIs P K w b f) (hK : P.underlying K = some (.int .i64)) {N : Nat} (hf : ∀ k, f k ≠ none → 0 ≤ k ∧ k < N) : ∃ D, w.ownsMap P K secR b N D ∧ ∀ k, (Lit.int .i64 k).wf = true → mview D k = f k := by
 obtain ⟨n, D, ho, hv⟩ := h
 obtain ⟨es, clock, hb, F, _, hD⟩ := id ho
 refine ⟨D, ⟨es, clock, hb, F, ?_, hD⟩, hv⟩
 have key : ∀ x ∈ es.toList, ∃ k, x.key = .int .i64 k ∧ 0 ≤ k ∧ k < N := by
  intro x hx
  obtain ⟨y, hy⟩ := F.reads x hx
  obtain ⟨k, hk1, hk2, hwf⟩ := keyOf_int_inv hK (rd_key hy)
  have hh : has D (.int .i64 k) = true := by
   rw [hD]
   exact List.any_eq_true.2 ⟨rg P K secR x, mem_sorted.2 (List.mem_map.2 ⟨x, hx, rfl⟩), by rw [rg_of hy, hk2]; exact WideAt.sameKey_self trivial⟩
  rcases ownsMap_at ho hK hwf with ⟨_, h2⟩ | ⟨zs, h2, _⟩
  ·rw [hh] at h2; cases h2
  ·rw [hv k hwf] at h2
   have := hf k (by rw [h2]; simp)
   exact ⟨k, hk1, this.1, this.2⟩
 have hst := ((MapKept.stamped_iff es clock).1 F.stamped).2.2
 have hl := nodup_below N (es.toList.map (fun x => (intOf x.key).toNat)) (by
  rw [List.Nodup, List.pairwise_map]
  refine List.Pairwise.imp_of_mem ?_ hst
  intro x y hx hy hne e
  obtain ⟨k, hk, h0, _⟩ := key x hx
  obtain ⟨j, hj, h1, _⟩ := key y hy
  rw [hk, hj] at e
  simp only [intOf] at e
  exact hne (by rw [hk, hj, show k = j by omega])) (by
  intro m hm
  obtain ⟨x, hx, rfl⟩ := List.mem_map.1 hm
  obtain ⟨k, hk, h0, h1⟩ := key x hx
  rw [hk]
  simp only [intOf]
  omega)
 simpa using hl
end

section
variable {P : Program} (w : World) {K E T : TypeId} {ops : Array Oper} {rest : List Oper} {o : Oper} {a : Act} {Q : Exit → Act → World → Prop} {b : Nat} {f : Int → Option (List Int)}

theorem MapIs.look (h : MapIs P K w b f) (hK : P.underlying K = some (.int .i64)) (hT : P.underlying T = some (.map K E)) (hz : (zeroValue E).run P w = .ok (secV noughts) w) {k : Int} (hk : (Lit.int .i64 k).wf = true) (c : Bool) :
  (Instr.lookup T (.map (some b)) (.int .i64 k) c).run P w = .ok (if c then .tuple #[secV ((f k).getD noughts), .bool (f k).isSome] else secV ((f k).getD noughts)) w := by
 obtain ⟨n, D, ho, hv⟩ := h
 obtain ⟨es, clock, hb, F, _, hD⟩ := id ho
 have law := int_keyed hK
 have h0 := ownsMap_at ho hK hk
 rw [hv k hk] at h0
 rcases fit_look c law hT hz hb F (keyOf_int_mk hK hk) with ⟨hrun, _, hat⟩ | ⟨e0, y, _, _, hrun, hRv, hat, _⟩
 ·rcases h0 with ⟨h1, _⟩ | ⟨zs, h1, h2, _, h3⟩
  ·rw [hrun, h1]; simp
  ·rw [← hD] at hat
   have := has_false_of_atKey hat
   rw [h2] at this; cases this
 ·obtain ⟨zs, hzv, hs, rfl⟩ := secR_inv hRv
  rw [← hD] at hat
  rcases h0 with ⟨_, h2⟩ | ⟨zs', h1, h2, _, h3⟩
  ·have := has_true_of_atKey hat
   rw [h2] at this; cases this
  ·have : DataW.held zs = .held zs' := (hat .nil).symm.trans (h3 .nil)
   injection this with this
   subst this
   rw [hrun, h1, hzv]; simp

theorem MapIs.store (h : MapIs P K w b f) (hK : P.underlying K = some (.int .i64)) (hT : P.underlying T = some (.map K E)) {N : Nat} (hN : N < 9223372036854775807) (hf : ∀ k, f k ≠ none → 0 ≤ k ∧ k < N) {k : Int} (hk : (Lit.int .i64 k).wf = true) {zs : List Int} (hs : Sec zs) :
  ∃ w', (Instr.mapUpdate T (.map (some b)) (.int .i64 k) (secV zs)).run P w = .ok () w' ∧ MapIs P K w' b (upd f k (some zs)) ∧ w.grownBy w' (some b) := by
 obtain ⟨D, ho, hv⟩ := h.bound hK hf
 obtain ⟨w', hrun, ho', hg⟩ := ho.update (int_keyed hK) hT (by unfold maxLen; omega) (keyOf_int_mk hK hk) (secR_mk hs)
 exact ⟨w', hrun, ⟨_, _, ho', fun j hj => by rw [mview_put _ ho.isMap, hv j hj]; rfl⟩, hg⟩

theorem MapIs.clear (h : MapIs P K w b f) (hT : P.underlying T = some (.map K E)) (ty : TypeId) :
  ∃ w', (Builtin.clear_ #[T] ty #[.map (some b)]).run P w = .ok (.tuple #[]) w' ∧ MapIs P K w' b (fun _ => none) ∧ w.grownBy w' (some b) := by
 obtain ⟨n, D, ho, hv⟩ := h
 obtain ⟨es, clock, hb, F, _, hD⟩ := ho
 refine ⟨ChangeMaps.setBlock w b (.map #[] clock), ?_, ⟨0, .map [], ⟨#[], clock, ChangeMaps.heap_setBlock_same hb _, ⟨by simp, ?_, by simp⟩, Nat.le_refl _, rfl⟩, fun _ _ => rfl⟩, ⟨rfl, rfl, rfl, by simp [ChangeMaps.setBlock], fun i _ hi => ChangeMaps.heap_setBlock_other hb _ (fun e => hi (by rw [e]))⟩⟩
 ·simp [Builtin.clear_, run_underlying hT, MapKept.run_getObj_map hb, MapKept.run_setObj_map _ hb, Result.andThen, ChangeMaps.setBlock]
 ·exact (MapKept.stamped_iff _ _).2 (by simp)

end
end Go.Proofs.YtglojnmcbochaaaGreatDoor

namespace Go.Proofs.YtglojnmcbochaaaGreatDoor

def I64 (n : Int) : Prop := -9223372036854775808 ≤ n ∧ n ≤ 9223372036854775807
def beAt (k : Nat) (z : Int) (t : Nat) : Int := z / 2 ^ (8 * (k - 1 - t)) % 256
def beTo (k : Nat) (z : Int) (n : Nat) : List Int := (List.range n).map (beAt k z)
def be (k : Nat) (z : Int) : List Int := beTo k z k
def decN (l : List Int) : Int := l.foldl (fun a c => IntKind.i64.wrap (a * 256 + c)) 0
/-! Readers: none: bytes were wanting. -/
def takeS (n : Nat) : Option (List Int) → List Int × Option (List Int)
 | none => ([], none)
 | some zs => if zs.length < n then ([], none) else (zs.take n, some (zs.drop n))
def numS (k : Nat) (s : Option (List Int)) : Int × Option (List Int) := (decN (takeS k s).1, (takeS k s).2)
end Go.Proofs.YtglojnmcbochaaaGreatDoor

namespace Go.Proofs.YtglojnmcbochaaaGreatDoor
open Go.Lib

def int64 (v : Int) : Prop := -9223372036854775808 ≤ v ∧ v ≤ 9223372036854775807
def numL (l : List UInt8) : Option Int :=
 match atoiAll l with
 | .ok v => if itoa v = l then some v else none
 | _ => none

def digB (c : UInt8) : Prop := 48 ≤ c.toNat ∧ c.toNat ≤ 57
instance (c : UInt8) : Decidable (digB c) := by unfold digB; infer_instance
def vstep (a : Nat) (c : UInt8) : Nat := a * 10 + (c.toNat - 48)
theorem vstep_eq (a : Nat) (c : UInt8) : vstep a c = a * 10 + (c.toNat - 48) := by unfold vstep; rfl
def valF (acc : Nat) (d : List UInt8) : Nat := d.foldl vstep acc
theorem valF_nil (acc : Nat) : valF acc [] = acc := by unfold valF; rw [List.foldl_nil]
theorem valF_cons (acc : Nat) (c : UInt8) (r : List UInt8) : valF acc (c :: r) = valF (acc * 10 + (c.toNat - 48)) r := by unfold valF; rw [List.foldl_cons, vstep_eq]
theorem valF_append (a b : List UInt8) (acc : Nat) : valF acc (a ++ b) = valF (valF acc a) b := by unfold valF; rw [List.foldl_append]
theorem valF_one (acc : Nat) (c : UInt8) : valF acc [c] = acc * 10 + (c.toNat - 48) := by rw [valF_cons, valF_nil]
theorem dig_ofNat (d : Nat) (h : d < 10) : (UInt8.ofNat (48 + d)).toNat = 48 + d := by
 simp; omega
theorem decDigits_dig (u : Nat) : ∀ c ∈ decDigits u, digB c := by
 induction u using Nat.strongRecOn with
 | _ u ih =>
  intro c hc
  rw [decDigits] at hc
  split at hc
  ·rw [List.mem_singleton] at hc
   subst hc
   unfold digB
   rw [dig_ofNat _ (by omega)]
   omega
  ·rcases List.mem_append.1 hc with hc | hc
   ·exact ih (u / 10) (by omega) c hc
   ·rw [List.mem_singleton] at hc
    subst hc
    unfold digB
    rw [dig_ofNat _ (by omega)]
    omega
theorem decDigits_val (u : Nat) : valF 0 (decDigits u) = u := by
 induction u using Nat.strongRecOn with
 | _ u ih =>
  by_cases h : u < 10
  ·rw [decDigits, dif_pos h, valF_one, dig_ofNat _ h]
   omega
  ·rw [decDigits, dif_neg h, valF_append, ih (u / 10) (by omega), valF_one, dig_ofNat _ (by omega)]
   omega
theorem decDigits_ne (u : Nat) : decDigits u ≠ [] := by
 intro h
 have h1 := decDigits_length u
 have h2 := nDigits_pos u
 rw [h, List.length_nil] at h1
 omega
theorem decDigits_of (d : List UInt8) (h0 : d ≠ []) (hd : ∀ c ∈ d, digB c) (hz : d.head? = some 48 → d.length = 1) : decDigits (valF 0 d) = d := by
 induction hn : d.length using Nat.strongRecOn generalizing d with
 | _ n ih =>
  rcases List.eq_nil_or_concat d with e | ⟨r, c, e⟩
  ·exact absurd e h0
  ·rw [List.concat_eq_append] at e
   subst e
   have hc : digB c := hd c (by simp)
   have hcv : UInt8.ofNat (48 + (c.toNat - 48)) = c := by
    unfold digB at hc
    apply UInt8.toNat_inj.1
    rw [dig_ofNat _ (by omega)]
    omega
   by_cases hr : r = []
   ·subst hr
    unfold digB at hc
    rw [zH, valF_one, decDigits, dif_pos (by omega), Nat.zero_mul, Nat.zero_add, hcv]
   ·have h1 := ih r.length (by simp at hn; omega) r hr (fun x hx => hd x (by simp [hx])) (fun e => by
     have h2 := hz (by
      cases r with
      | nil => exact absurd rfl hr
      | cons x y => simpa using e)
     simp at h2
     exact absurd (by cases r <;> simp_all) hr) rfl
    have hpos : 1 ≤ valF 0 r := by
     rcases Nat.eq_zero_or_pos (valF 0 r) with e | e
     ·exfalso
      rw [e, decDigits, dif_pos (by omega)] at h1
      have h2 := hz (by rw [← h1]; rfl)
      rw [← h1] at h2
      simp at h2
     ·exact e
    rw [valF_append, valF_one]
    unfold digB at hc
    rw [decDigits, dif_neg (by omega), show (valF 0 r * 10 + (c.toNat - 48)) / 10 = valF 0 r by omega, h1, show (valF 0 r * 10 + (c.toNat - 48)) % 10 = c.toNat - 48 by omega, hcv]
theorem valF_ge (d : List UInt8) (acc : Nat) : acc ≤ valF acc d := by
 induction d generalizing acc with
 | nil => rw [valF_nil]; exact Nat.le_refl _
 | cons c r ih => rw [valF_cons]; exact Nat.le_trans (by omega) (ih (acc * 10 + (c.toNat - 48)))
theorem valF_lt (d : List UInt8) (acc : Nat) (hd : ∀ c ∈ d, digB c) : valF acc d < (acc + 1) * 10 ^ d.length := by
 induction d generalizing acc with
 | nil =>
  rw [valF_nil, List.length_nil, Nat.pow_zero, Nat.mul_one]
  exact Nat.lt_succ_self acc
 | cons c r ih =>
  have h1 := ih (acc * 10 + (c.toNat - 48)) (fun x hx => hd x (by simp [hx]))
  have h2 : digB c := hd c (by simp)
  unfold digB at h2
  rw [valF_cons, List.length_cons]
  refine Nat.lt_of_lt_of_le h1 ?_
  rw [Nat.pow_succ, Nat.mul_comm (10 ^ r.length) 10, ← Nat.mul_assoc]
  exact Nat.mul_le_mul_right _ (by omega)
theorem parse_ok (d : List UInt8) (acc : Nat) (hd : ∀ c ∈ d, digB c) (h : valF acc d < 18446744073709551616) : parseUint10 acc d = .ok (valF acc d) := by
 induction d generalizing acc with
 | nil => rw [valF_nil]; rfl
 | cons c r ih =>
  have h2 : digB c := hd c (by simp)
  have h3 := valF_ge r (acc * 10 + (c.toNat - 48))
  rw [valF_cons] at h ⊢
  unfold digB at h2
  rw [parseUint10, if_pos h2, if_neg (by omega), if_neg (by omega)]
  exact ih _ (fun x hx => hd x (by simp [hx])) h
theorem atoi_itoa (v : Int) (h : int64 v) : atoiAll (itoa v) = .ok v := by
 unfold int64 at h
 unfold itoa
 by_cases hn : v < 0
 ·rw [if_pos hn, atoiAll_minus]
  unfold parseMag
  rw [if_neg (decDigits_ne _), parse_ok _ _ (decDigits_dig _) (by rw [decDigits_val]; omega), decDigits_val]
  simp only [signed]
  rw [if_neg (by omega)]
  congr 1
  omega
 ·rw [if_neg hn]
  have hne := decDigits_ne v.toNat
  have hdg := decDigits_dig v.toNat
  have hv := decDigits_val v.toNat
  generalize decDigits v.toNat = d at hne hdg hv
  cases d with
  | nil => exact absurd rfl hne
  | cons c r =>
   have hc : digB c := hdg c (by simp)
   unfold digB at hc
   rw [atoiAll_plain c r (by omega) (by omega)]
   unfold parseMag
   rw [if_neg hne, parse_ok _ _ hdg (by rw [hv]; omega), hv]
   simp only [signless]
   rw [if_neg (by omega)]
   congr 1
   omega
theorem numL_itoa (v : Int) (h : int64 v) : numL (itoa v) = some v := by
 unfold numL
 rw [atoi_itoa v h]
 simp
theorem numL_some {l : List UInt8} {v : Int} (h : numL l = some v) : itoa v = l ∧ int64 v := by
 unfold numL at h
 split at h
 ·rename_i v' hv'
  split at h
  ·rename_i he
   injection h with h
   subst h
   exact ⟨he, atoiAll_bounds hv'⟩
  ·cases h
 ·cases h

/-! the document's reading -/
def refMag (neg : Bool) (d : List UInt8) : Option Int :=
 if d.length = 0 ∨ 19 < d.length ∨ (d.head? = some 48 ∧ (1 < d.length ∨ neg = true)) then none
 else if ∀ c ∈ d, digB c then
  (if neg = true ∧ valF 0 d ≤ 9223372036854775808 then some (-(valF 0 d : Int)) else if neg = false ∧ valF 0 d < 9223372036854775808 then some (valF 0 d : Int) else none)
 else none
def refNum (l : List UInt8) : Option Int := if l.head? = some 45 then refMag true l.tail else refMag false l
theorem nDigits_le (u k : Nat) (hk : 1 ≤ k) (h : u < 10 ^ k) : nDigits u ≤ k := by
 induction k generalizing u with
 | zero => omega
 | succ k ih =>
  by_cases hu : u < 10
  ·rw [nDigits_small hu]; omega
  ·rw [nDigits_big hu]
   have : 1 ≤ k := by
    rcases Nat.eq_zero_or_pos k with e | e
    ·subst e; simp at h; omega
    ·exact e
   have := ih (u / 10) this (by rw [Nat.pow_succ] at h; omega)
   omega
theorem decDigits_head (u : Nat) (h : (decDigits u).head? = some 48) : u = 0 := by
 induction u using Nat.strongRecOn with
 | _ u ih =>
  rw [decDigits] at h
  split at h
  ·simp only [List.head?_cons, Option.some.injEq] at h
   have h2 := congrArg UInt8.toNat h
   rw [dig_ofNat _ (by omega)] at h2
   have : (48 : UInt8).toNat = 48 := rfl
   omega
  ·rename_i hu
   have hne := decDigits_ne (u / 10)
   have h2 : (decDigits (u / 10)).head? = some 48 := by
    generalize decDigits (u / 10) = d at hne h
    cases d with
    | nil => exact absurd rfl hne
    | cons c r => simpa using h
   have := ih (u / 10) (by omega) h2
   omega
theorem refMag_digits (neg : Bool) (u : Nat) (h : if neg = true then 1 ≤ u ∧ u ≤ 9223372036854775808 else u < 9223372036854775808) : refMag neg (decDigits u) = some (if neg = true then -(u : Int) else u) := by
 have h1 := decDigits_length u
 have h2 := nDigits_pos u
 have h3 : nDigits u ≤ 19 := nDigits_le u 19 (by omega) (by split at h <;> omega)
 unfold refMag
 rw [if_neg, if_pos (decDigits_dig u), decDigits_val]
 ·cases neg with
  | true =>
   simp only [if_true] at h ⊢
   simp [h.2]
  | false =>
   simp only [Bool.false_eq_true, if_false] at h ⊢
   simp [h]
 ·rintro (e | e | ⟨e, e2⟩)
  ·omega
  ·omega
  ·have h0 := decDigits_head u e
   subst h0
   rcases e2 with e2 | e2
   ·rw [h1, nDigits_small (by omega)] at e2; omega
   ·subst e2; simp at h
theorem refNum_itoa (v : Int) (h : int64 v) : refNum (itoa v) = some v := by
 unfold int64 at h
 unfold refNum itoa
 by_cases hn : v < 0
 ·rw [if_pos hn]
  simp only [List.head?_cons, if_true, List.tail_cons]
  rw [refMag_digits true v.natAbs (by simp only [if_true]; omega)]
  simp only [if_true]
  congr 1
  omega
 ·rw [if_neg hn, if_neg]
  ·rw [refMag_digits false v.toNat (by simp only [Bool.false_eq_true, if_false]; omega)]
   simp only [Bool.false_eq_true, if_false]
   congr 1
   omega
  ·intro e
   have := decDigits_dig v.toNat 45 (List.mem_of_mem_head? e)
   unfold digB at this
   have e2 : (45 : UInt8).toNat = 45 := rfl
   omega
theorem refMag_some {neg : Bool} {d : List UInt8} {v : Int} (h : refMag neg d = some v) : d ≠ [] ∧ (∀ c ∈ d, digB c) ∧ decDigits (valF 0 d) = d ∧ (if neg = true then v = -(valF 0 d : Int) ∧ 1 ≤ valF 0 d ∧ valF 0 d ≤ 9223372036854775808 else v = valF 0 d ∧ valF 0 d < 9223372036854775808) := by
 unfold refMag at h
 split at h
 ·cases h
 ·rename_i hc
  split at h
  ·rename_i hd
   have hne : d ≠ [] := fun e => hc (.inl (by rw [e]; rfl))
   have hof := decDigits_of d hne hd (fun e => by
    rcases Nat.lt_or_ge 1 d.length with h1 | h1
    ·exact absurd (.inr (.inr ⟨e, .inl h1⟩)) hc
    ·have : d.length ≠ 0 := fun e => hc (.inl e)
     omega)
   refine ⟨hne, hd, hof, ?_⟩
   cases neg with
   | true =>
    simp only [if_true, true_and] at h ⊢
    split at h
    ·rename_i h2
     injection h with h
     refine ⟨h.symm, ?_, h2⟩
     rcases Nat.eq_zero_or_pos (valF 0 d) with e | e
     ·exfalso
      rw [e, decDigits, dif_pos (by omega)] at hof
      exact hc (.inr (.inr ⟨by rw [← hof]; rfl, .inr rfl⟩))
     ·exact e
    ·simp at h
   | false =>
    simp only [Bool.false_eq_true, if_false, false_and, true_and] at h ⊢
    split at h
    ·rename_i h2
     injection h with h
     exact ⟨h.symm, h2⟩
    ·cases h
  ·cases h
theorem refNum_some {l : List UInt8} {v : Int} (h : refNum l = some v) : itoa v = l ∧ int64 v := by
 unfold refNum at h
 split at h
 ·rename_i hh
  obtain ⟨h0, h1, h2, h3⟩ := refMag_some h
  simp only [if_true] at h3
  obtain ⟨rfl, h4, h5⟩ := h3
  cases l with
  | nil => simp at hh
  | cons c r =>
   simp only [List.head?_cons, Option.some.injEq] at hh
   subst hh
   simp only [List.tail_cons] at h2 h4 h5 ⊢
   refine ⟨?_, by unfold int64; omega⟩
   unfold itoa
   rw [if_pos (by omega), show (-(valF 0 r : Int)).natAbs = valF 0 r by omega, h2]
 ·obtain ⟨h0, h1, h2, h3⟩ := refMag_some h
  simp only [Bool.false_eq_true, if_false] at h3
  obtain ⟨rfl, h4⟩ := h3
  refine ⟨?_, by unfold int64; omega⟩
  unfold itoa
  rw [if_neg (by omega)]
  exact h2
theorem refNum_eq (l : List UInt8) : refNum l = numL l := by
 cases h : numL l with
 | some v =>
  obtain ⟨h1, h2⟩ := numL_some h
  rw [← h1]
  exact refNum_itoa v h2
 | none =>
  cases h2 : refNum l with
  | none => rfl
  | some v =>
   obtain ⟨h3, h4⟩ := refNum_some h2
   rw [← h3, numL_itoa v h4] at h
   cases h
end Go.Proofs.YtglojnmcbochaaaGreatDoor

