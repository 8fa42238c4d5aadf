/-
  ytglojnmcbochaaagreatdoor: laws and walks on the road to LinesTales, joined: RegC RegD AskN AskG AskR. Conditions stand at each theorem.
-/
import Derived.Test.YtglojnmcbochaaaGreatDoorTRegB
import Derived.Test.YtglojnmcbochaaaGreatDoorTAskB
import Derived.IntWalk
import Derived.StillTailTactics
namespace Go.Proofs.YtglojnmcbochaaaGreatDoor
open Go.RowKit Go.Maps

inductive Tr (α : Type) where
  | nil : Tr α
  | take (x : α) (r : Tr α) : Tr α
  | run (x : α) (r : Tr α) : Tr α
  | two (x y : α) (r s : Tr α) : Tr α
def Tr.map {α β : Type} (f : α → β) : Tr α → Tr β
  | .nil => .nil
  | .take x r => .take (f x) (r.map f)
  | .run x r => .run (f x) (r.map f)
  | .two x y r s => .two (f x) (f y) (r.map f) (s.map f)
def Tr.len {α : Type} : Tr α → Nat
  | .nil => 0
  | .take _ r => r.len + 1
  | .run _ r => r.len + 1
  | .two _ _ r _ => r.len + 1
section
variable {P : Program} {ops : Array Oper} {Q : Exit → Act → World → Prop} {md : Region.Mode} {S : World → Prop}
/-- One operation, now. -/
def wpNow (P : Program) (ops : Array Oper) (Q : Exit → Act → World → Prop) (S : World → Prop) (K : Act → World → Prop) (o : Oper) (a : Act) (w : World) : Prop :=
  if Region.wanted o (yielded ops a.tmps) then o.wp P a w (fun a' w' => S w' ∧ K a' w') Q else (S w ∧ K (a.put o.dst undef) w)
theorem now_run {a : Act} {w : World} {o : Oper} {K : Act → World → Prop} (hw : Region.wanted o (yielded ops a.tmps) = true) (h : ∀ K' : Act → World → Prop, Shut (∀ a w, S w → K a w → K' a w) → o.wp P a w K' Q) : wpNow P ops Q S K o a w := by
  unfold wpNow
  rw [if_pos hw]
  exact h _ (fun _ _ h1 h2 => ⟨h1, h2⟩)
theorem wpOp_now {i : Nat} {a : Act} {w : World} {K : Act → World → Prop} (hi : i < ops.size) (h : wpNow P ops Q S K ops[i] a w) : wpOp P ops Q i (fun a' w' => S w' ∧ K a' w') a w := by
  unfold wpOp
  rw [Array.getElem?_eq_getElem hi]
  show if Region.wanted ops[i] (yielded ops a.tmps) = true then _ else _
  unfold wpNow at h
  split
  · rename_i hw
    rw [if_pos hw] at h
    exact .inl h
  · rename_i hw
    rw [if_neg hw] at h
    exact h
theorem now_mono {K K' : Act → World → Prop} {o : Oper} {a : Act} {w : World} (hK : ∀ a w, K a w → K' a w) (h : wpNow P ops Q S K o a w) : wpNow P ops Q S K' o a w := by
  unfold wpNow at h ⊢
  split
  · rename_i hw
    rw [if_pos hw] at h
    exact Oper.wp_mono (fun a' w' h' => ⟨h'.1, hK a' w' h'.2⟩) h
  · rename_i hw
    rw [if_neg hw] at h
    exact ⟨h.1, hK _ _ h.2⟩
end
end Go.Proofs.YtglojnmcbochaaaGreatDoor

namespace Go.Proofs.YtglojnmcbochaaaGreatDoor
open Go.RowKit Go.Maps

inductive Ts (α : Type) where
  | nil : Ts α
  | take (x : α) (r : Ts α) : Ts α
  | run (x : α) (r : Ts α) : Ts α
  | two (x y : α) (r s : Ts α) : Ts α
  | three (x y z : α) (r s t : Ts α) : Ts α
def Ts.map {α β : Type} (f : α → β) : Ts α → Ts β
  | .nil => .nil
  | .take x r => .take (f x) (r.map f)
  | .run x r => .run (f x) (r.map f)
  | .two x y r s => .two (f x) (f y) (r.map f) (s.map f)
  | .three x y z r s t => .three (f x) (f y) (f z) (r.map f) (s.map f) (t.map f)
def Ts.len {α : Type} : Ts α → Nat
  | .nil => 0
  | .take _ r => r.len + 1
  | .run _ r => r.len + 1
  | .two _ _ r _ => r.len + 1
  | .three _ _ _ r _ _ => r.len + 1
/-- All of a list are taken, and then the rest. -/
def tsT (is : List Nat) (r : Ts Nat) : Ts Nat := is.foldr Ts.take r
def tsF (is : List Nat) (r : Ts Nat) : Ts Nat := is.foldr Ts.run r
section
variable {P : Program} {ops : Array Oper} {Q : Exit → Act → World → Prop} {md : Region.Mode} {S : World → Prop}
def tsB (md : Region.Mode) (ops : Array Oper) : Ts Nat → Array Bool → Bool
  | .nil, listed => (Region.ready md ops listed).isEmpty
  | .take i r, listed => decide (i < ops.size) && ((Region.ready md ops listed).contains i && Region.free md ops listed i) && tsB md ops r (listed.setIfInBounds i true)
  | .run i r, listed => decide (i < ops.size) && decide (Region.ready md ops listed = [i]) && tsB md ops r (listed.setIfInBounds i true)
  | .two i j r s, listed => (decide (i < ops.size) && decide (j < ops.size)) && (decide (Region.ready md ops listed = [i, j]) && decide (s.len = r.len)) && (tsB md ops r (listed.setIfInBounds i true) && tsB md ops s (listed.setIfInBounds j true))
  | .three i j k r s t, listed => (decide (i < ops.size) && decide (j < ops.size) && decide (k < ops.size)) && (decide (Region.ready md ops listed = [i, j, k]) && decide (s.len = r.len) && decide (t.len = r.len)) && (tsB md ops r (listed.setIfInBounds i true) && tsB md ops s (listed.setIfInBounds j true) && tsB md ops t (listed.setIfInBounds k true))
def wpTs (P : Program) (ops : Array Oper) (Q : Exit → Act → World → Prop) (S : World → Prop) : Ts (Option Oper) → Act → World → Prop
  | .nil, a, w => Q .normal a w
  | .take none _, _, _ => False
  | .take (some o) r, a, w => ∃ v, YieldsIf P ops S o v a ∧ S w ∧ wpTs P ops Q S r (a.put o.dst v) w
  | .run none _, _, _ => False
  | .run (some o) r, a, w => wpNow P ops Q S (wpTs P ops Q S r) o a w
  | .two none _ _ _, _, _ => False
  | .two (some _) none _ _, _, _ => False
  | .two (some o) (some p) r s, a, w => wpNow P ops Q S (wpTs P ops Q S r) o a w ∧ wpNow P ops Q S (wpTs P ops Q S s) p a w
  | .three none _ _ _ _ _, _, _ => False
  | .three (some _) none _ _ _ _, _, _ => False
  | .three (some _) (some _) none _ _ _, _, _ => False
  | .three (some o) (some p) (some q) r s t, a, w => wpNow P ops Q S (wpTs P ops Q S r) o a w ∧ wpNow P ops Q S (wpTs P ops Q S s) p a w ∧ wpNow P ops Q S (wpTs P ops Q S t) q a w
theorem ts_nil {a : Act} {w : World} (h : Q .normal a w) : wpTs P ops Q S .nil a w := by unfold wpTs; exact h
theorem ts_take {a : Act} {w : World} {o : Oper} {r : Ts (Option Oper)} {v : Value} (hS : S w) (hw : Region.wanted o (yielded ops a.tmps) = true) (hy : ∀ w, S w → (execOp a.eval o).run P w = .ok (.value v) w) (h : wpTs P ops Q S r (a.put o.dst v) w) : wpTs P ops Q S (.take (some o) r) a w := by
  unfold wpTs
  exact ⟨v, .inl ⟨hw, hy⟩, hS, h⟩
theorem ts_run {a : Act} {w : World} {o : Oper} {r : Ts (Option Oper)} (hw : Region.wanted o (yielded ops a.tmps) = true) (h : ∀ K : Act → World → Prop, Shut (∀ a w, S w → wpTs P ops Q S r a w → K a w) → o.wp P a w K Q) : wpTs P ops Q S (.run (some o) r) a w := by
  unfold wpTs
  exact now_run hw h
theorem ts_two {a : Act} {w : World} {o p : Oper} {r s : Ts (Option Oper)} (h1 : wpNow P ops Q S (wpTs P ops Q S r) o a w) (h2 : wpNow P ops Q S (wpTs P ops Q S s) p a w) : wpTs P ops Q S (.two (some o) (some p) r s) a w := by
  unfold wpTs
  exact ⟨h1, h2⟩
theorem wpAnyH_ts (hs : Region.noSelect ops = true) (hQ : ∀ c a d v w, Q (.panic c) (Act.put a (some d) v) w → Q (.panic c) a w) :
    ∀ (t : Ts Nat) (listed : Array Bool) (a : Act) (w : World), tsB md ops t listed = true → wpTs P ops Q S (t.map fun i => ops.toList[i]?) a w → wpAnyH P md ops Q S t.len listed a w
  | .nil, listed, a, w, hB, h => by
    unfold Ts.map wpTs at h
    exact ⟨by simpa [tsB] using hB, h⟩
  | .take i r, listed, a, w, hB, h => by
    simp only [tsB, Bool.and_eq_true, decide_eq_true_eq] at hB
    obtain ⟨⟨hi, h1, h2⟩, h3⟩ := hB
    have hoi : ops[i]? = some ops[i] := Array.getElem?_eq_getElem hi
    unfold Ts.map at h
    rw [show ops.toList[i]? = some ops[i] by simp] at h
    unfold wpTs at h
    obtain ⟨v, hy, hS, h⟩ := h
    exact wpAnyH_take hoi hs h2 h1 (fun c a w hp => by
      cases hd : ops[i].dst with
      | none => rw [hd] at hp; exact hp
      | some d => rw [hd] at hp; exact hQ c a d _ w hp) hy hS (wpAnyH_ts hs hQ r _ _ _ h3 h)
  | .run i r, listed, a, w, hB, h => by
    simp only [tsB, Bool.and_eq_true, decide_eq_true_eq] at hB
    obtain ⟨⟨hi, h1⟩, h3⟩ := hB
    unfold Ts.map at h
    rw [show ops.toList[i]? = some ops[i] by simp] at h
    unfold wpTs at h
    refine wpAnyH_all h1 (by simp) (fun j hj => ?_)
    obtain rfl : j = i := by simpa using hj
    exact wpOp_now hi (now_mono (fun a' w' h' => wpAnyH_ts hs hQ r _ a' w' h3 h') h)
  | .two i j r s, listed, a, w, hB, h => by
    simp only [tsB, Bool.and_eq_true, decide_eq_true_eq] at hB
    obtain ⟨⟨⟨hi, hj⟩, h1, hl⟩, h3, h4⟩ := hB
    unfold Ts.map at h
    rw [show ops.toList[i]? = some ops[i] by simp, show ops.toList[j]? = some ops[j] by simp] at h
    unfold wpTs at h
    refine wpAnyH_all h1 (by simp) (fun m hm => ?_)
    rcases (show m = i ∨ m = j by simpa using hm) with rfl | rfl
    · exact wpOp_now hi (now_mono (fun a' w' h' => wpAnyH_ts hs hQ r _ a' w' h3 h') h.1)
    · exact wpOp_now hj (now_mono (fun a' w' h' => by have := wpAnyH_ts hs hQ s _ a' w' h4 h'; rw [hl] at this; exact this) h.2)
  | .three i j k r s t, listed, a, w, hB, h => by
    simp only [tsB, Bool.and_eq_true, decide_eq_true_eq] at hB
    obtain ⟨⟨⟨⟨hi, hj⟩, hk⟩, ⟨h1, hl⟩, hl2⟩, ⟨h3, h4⟩, h5⟩ := hB
    unfold Ts.map at h
    rw [show ops.toList[i]? = some ops[i] by simp, show ops.toList[j]? = some ops[j] by simp, show ops.toList[k]? = some ops[k] by simp] at h
    unfold wpTs at h
    refine wpAnyH_all h1 (by simp) (fun m hm => ?_)
    rcases (show m = i ∨ m = j ∨ m = k by simpa using hm) with rfl | rfl | rfl
    · exact wpOp_now hi (now_mono (fun a' w' h' => wpAnyH_ts hs hQ r _ a' w' h3 h') h.1)
    · exact wpOp_now hj (now_mono (fun a' w' h' => by have := wpAnyH_ts hs hQ s _ a' w' h4 h'; rw [hl] at this; exact this) h.2.1)
    · exact wpOp_now hk (now_mono (fun a' w' h' => by have := wpAnyH_ts hs hQ t _ a' w' h5 h'; rw [hl2] at this; exact this) h.2.2)
def regTsB (l : List Oper) (t : Ts Nat) : Bool := Region.noSelect l.toArray && decide (t.len = l.toArray.size) && tsB .any l.toArray t (Array.replicate l.toArray.size false)
theorem wp_region_ts {id : Nat} {a : Act} {w : World} {l : List Oper} (S : World → Prop) (t : Ts Nat) (hm : P.follows .mixedOrders = true) (hB : regTsB l t = true)
    (hQ : ∀ c a d v w, Q (.panic c) (Act.put a (some d) v) w → Q (.panic c) a w)
    (hh : wpTs P l.toArray Q S (t.map fun i => l[i]?) a w.drew) : (Code.region id l.toArray true).wp P Q a w := by
  simp only [regTsB, Bool.and_eq_true, decide_eq_true_eq] at hB
  obtain ⟨⟨h1, h3⟩, h4⟩ := hB
  refine wp_region_held (S := S) hm ?_
  rw [← h3]
  have h5 : wpAnyH P .any l.toArray Q S t.len (Array.replicate l.toArray.size false) a w.drew := wpAnyH_ts h1 hQ t _ a w.drew h4 (by simpa using hh)
  rw [h3] at h5 ⊢
  exact h5
end
end Go.Proofs.YtglojnmcbochaaaGreatDoor

namespace Go.Proofs.YtglojnmcbochaaaGreatDoor
open Go.RowKit Go.Maps
set_option linter.unusedVariables false
set_option linter.unusedSimpArgs false

theorem wp_appE {P : Program} {w : World} {S U q bytes : Nat} {z : Value} {A : Option Addr} {n c : Nat} {xs : List Value} {o : Oper} {a : Act} {K : Act → World → Prop} {Q : Exit → Act → World → Prop} (E : EltT P S U q bytes z) (s x : Operand) (ho : o.op = .call { callee := .builtin .append, args := #[s, x], argTypes := #[S, S] })
    (h : OwnE w U q A n c xs) (ad : Addr) (m cc : Nat) (ys : List Value) (hl : ys.length = m * q) (hnews : ∀ j u, ys[j]? = some u → w.cell? (ad.add j) = some u) (h1 : ∀ u ∈ ys, u.oneCell' = true) (hm : 0 < m) (hmx : n + m ≤ maxLen) (hb : (n + m) * bytes ≤ 140737488355328) (hs : a.eval s = .slice A n c) (hx : a.eval x = .slice (some ad) m cc)
    (hC : ∀ A' c' w', OwnE w' U q A' (n + m) c' (xs ++ ys) → App2 w w' A A' c c' → K (a.put o.dst (.slice A' (n + m) c')) w') : o.wp P a w K Q := by
  obtain ⟨A', c', w', hrun, h2, h3⟩ := run_appE (ty := o.type) E h ad m cc ys hl hnews h1 hm hmx hb
  exact Lib.wp_append_run w s x S S ho _ _ hs hx _ _ hrun (hC A' c' w' h2 h3)
end Go.Proofs.YtglojnmcbochaaaGreatDoor

namespace Go.Proofs.YtglojnmcbochaaaGreatDoor
open Go.RowKit Go.Maps
set_option linter.unusedVariables false
set_option linter.unusedSimpArgs false

theorem BytS.turned0 {w w' : World} {W : Nat → Prop} {A : Option Addr} {n c : Nat} {zs : List Int} (h : BytS w A n c zs) (ht : Turned W w w') (hW : 0 < n → ∀ b o, A = some ⟨b, o, none⟩ → ¬ W b) : BytS w' A n c zs :=
  ⟨⟨h.len, h.max, fun hn => by
    obtain ⟨b, off, e, hc⟩ := h.cell hn
    exact ⟨b, off, e, fun j hj => cell_turned ht (hc j hj) (hW hn b off e)⟩⟩, h.nil_⟩
/-- What Get's closures share: is all well so far; where they are; the bytes. -/
structure GetW (A : Option Addr) (n c : Nat) (zs : List Int) (B bok bat bbx : Nat) (s : Option (List Int)) (pz : Nat) (w : World) : Prop where
  ok : Blk w bok 4 #[.bool s.isSome]
  at_ : Blk w bat 3 #[.int .i64 (pz : Int)]
  bx : Blk w bbx 106 #[.slice A n c]
  byt : BytS w A n c zs
  le : pz ≤ n
  is_ : ∀ r, s = some r → r = zs.drop pz
  far : 0 < n → ∀ b o, A = some ⟨b, o, none⟩ → b < B
  b1 : B ≤ bok
  b2 : B ≤ bat
  nc : n ≤ c
  cm : c ≤ maxLen
  few : n ≤ 1000000
section
variable {A : Option Addr} {n c : Nat} {zs : List Int} {B bok bat bbx : Nat} {s : Option (List Int)} {pz : Nat} {w w' : World}
theorem GetW.turned {W : Nat → Prop} (h : GetW A n c zs B bok bat bbx s pz w) (ht : Turned W w w') (hW : ∀ i, W i → i ≠ bok ∧ i ≠ bat ∧ i ≠ bbx ∧ B ≤ i) : GetW A n c zs B bok bat bbx s pz w' :=
  ⟨h.ok.turned ht (fun e => (hW _ e).1 rfl), h.at_.turned ht (fun e => (hW _ e).2.1 rfl), h.bx.turned ht (fun e => (hW _ e).2.2.1 rfl), h.byt.turned0 ht (fun hn b o e e2 => by have := h.far hn b o e; have := (hW _ e2).2.2.2; omega), h.le, h.is_, h.far, h.b1, h.b2, h.nc, h.cm, h.few⟩
theorem GetW.fresh (h : GetW A n c zs B bok bat bbx s pz w) (ht : Turned (fun _ => False) w w') : GetW A n c zs B bok bat bbx s pz w' := h.turned ht (fun _ e => e.elim)
theorem GetW.ne2 (h : GetW A n c zs B bok bat bbx s pz w) : bbx ≠ bok := Blk.ne_ h.bx h.ok (by decide)
theorem GetW.ne3 (h : GetW A n c zs B bok bat bbx s pz w) : bbx ≠ bat := Blk.ne_ h.bx h.at_ (by decide)
/-- The two boxes written anew. -/
theorem GetW.put (h : GetW A n c zs B bok bat bbx s pz w) {s' : Option (List Int)} {at' : Nat} (ht : Turned (fun i => i = bok ∨ i = bat) w w') (h1 : Blk w' bok 4 #[.bool s'.isSome]) (h2 : Blk w' bat 3 #[.int .i64 (at' : Int)]) (hle : at' ≤ n) (his : ∀ r, s' = some r → r = zs.drop at') : GetW A n c zs B bok bat bbx s' at' w' :=
  ⟨h1, h2, h.bx.turned ht (fun e => by
    rcases e with e | e
    · exact h.ne2 e
    · exact h.ne3 e), h.byt.turned0 ht (fun hn b o e e2 => by
    have := h.far hn b o e
    have k1 := h.b1
    have k2 := h.b2
    rcases e2 with e2 | e2 <;> omega), hle, his, h.far, h.b1, h.b2, h.nc, h.cm, h.few⟩
end
def BoxT (bok bat : Nat) (i : Nat) : Prop := i = bok ∨ i = bat
end Go.Proofs.YtglojnmcbochaaaGreatDoor

namespace Go.Proofs.YtglojnmcbochaaaGreatDoor
open Go.RowKit Go.Maps
set_option linter.unusedVariables false
set_option linter.unusedSimpArgs false

def Sl.nil : Sl := ⟨none, 0, 0⟩
def AskS.nil : AskS := ⟨Sl.nil, Sl.nil⟩
theorem Blk.iter {w : World} {g : Nat} {t : TypeId} {cs : Array Value} (h : Blk w g t cs) {k : Nat} (hk : g ≠ k) (s : ByteArray) (p : Nat) : Blk (w.iterAt k s p) g t cs := by
  unfold Blk at h ⊢
  simp only [World.iterAt]
  rw [Array.getElem?_setIfInBounds_ne (by omega)]
  exact h
/-- A command that lies in block g. -/
def AskAt (w : World) (g : Nat) (a : AskV) (S : AskS) : Prop := Blk w g 28 (askC a S)
section
variable {w w' : World} {g : Nat} {a : AskV} {S : AskS}
theorem AskAt.turned {W : Nat → Prop} (h : AskAt w g a S) (ht : Turned W w w') (hg : ¬ W g) : AskAt w' g a S := Blk.turned h ht hg
theorem AskAt.fresh (h : AskAt w g a S) (ht : Turned (fun _ => False) w w') : AskAt w' g a S := Blk.turned h ht (fun e => e)
theorem AskAt.lt (h : AskAt w g a S) : g < w.heap.size := Blk.lt h
theorem AskAt.cells (h : AskAt w g a S) : w.cell? ⟨g, 0, none⟩ = some (.int .u8 a.kind) ∧ w.cell? ⟨g, 1, none⟩ = some (.int .i64 a.request) ∧ w.cell? ⟨g, 2, none⟩ = some (.string ⟨a.item.toArray⟩) ∧ w.cell? ⟨g, 3, none⟩ = some (.int .i64 a.qty) ∧ w.cell? ⟨g, 4, none⟩ = some (.int .i64 a.day) ∧ w.cell? ⟨g, 5, none⟩ = some (.int .i64 a.days) ∧ w.cell? ⟨g, 6, none⟩ = some (.int .i64 a.rank) ∧ w.cell? ⟨g, 7, none⟩ = some (.int .i64 a.lot) ∧ w.cell? ⟨g, 8, none⟩ = some (.int .i64 a.line) ∧ w.cell? ⟨g, 9, none⟩ = some (.slice S.P.A S.P.n S.P.c) ∧ w.cell? ⟨g, 10, none⟩ = some (.slice S.O.A S.O.n S.O.c) := Blk.cells11 h
end
/-- The loop's two commands and its iterator. -/
structure RgtW (a x : AskV) (S : AskS) (f : List Nat) (w : World) (ba bb bi pos : Nat) (W : World) : Prop where
  aa : AskAt W ba a S
  bare : AskAt W bb x AskS.nil
  it : W.heap[bi]? = some (.stringIter (fBA f) pos)
  t : Turned (fun _ => False) w W
section
variable {a x : AskV} {S : AskS} {f : List Nat} {w W W' : World} {ba bb bi pos : Nat}
theorem heap_lt {w : World} {k : Nat} {o : Obj} (h : w.heap[k]? = some o) : k < w.heap.size := by
  rcases Nat.lt_or_ge k w.heap.size with hl | hg
  · exact hl
  · rw [Array.getElem?_eq_none hg] at h; cases h
theorem RgtW.fresh (h : RgtW a x S f w ba bb bi pos W) (ht : Turned (fun _ => False) W W') : RgtW a x S f w ba bb bi pos W' :=
  ⟨h.aa.fresh ht, h.bare.fresh ht, (ht.block bi (heap_lt h.it) (fun e => e)).trans h.it, h.t.and_ ht⟩
theorem RgtW.iter (h : RgtW a x S f w ba bb bi pos W) (h1 : ba ≠ bi) (h2 : bb ≠ bi) (h3 : w.heap.size ≤ bi) : RgtW a x S f w ba bb bi (pos + 1) (W.iterAt bi (fBA f) (pos + 1)) :=
  ⟨Blk.iter h.aa h1 _ _, Blk.iter h.bare h2 _ _, Lib.iterAt_heap _ _ _ _ _ h.it, h.t.iterAt h3 _ _⟩
theorem RgtW.store {x' : AskV} (h : RgtW a x S f w ba bb bi pos W) (h1 : ba ≠ bb) (h2 : bb ≠ bi) (h3 : w.heap.size ≤ bb) (i : Nat) (v : Value) (hx : (askC x AskS.nil).setIfInBounds i v = askC x' AskS.nil) : RgtW a x' S f w ba bb bi pos (W.setCell ⟨bb, i, none⟩ v) :=
  ⟨Blk.far h.aa h1 v, by have := Blk.set_ h.bare i v; rw [hx] at this; exact this, (Below.heap_setCell W ⟨bb, i, none⟩ v bi (fun e => h2 e.symm)).trans h.it, h.t.setCell (.inr h3) v⟩
theorem RgtW.pos_ (h : RgtW a x S f w ba bb bi pos W) : W.iterPos bi = pos := by simp [World.iterPos, h.it]
end
def RgtRel2 (a : AskV) (S : AskS) (f : List Nat) (w : World) (ba bb bi : Nat) (v : Value) (wr : World) : Prop :=
  ∃ (pos : Nat) (x : AskV), pos ≤ f.length ∧ v = .bool (okTo a (f.take pos)) ∧ x = bareA a (f.take pos) ∧ RgtW a x S f w ba bb bi pos wr
theorem RgtRel2.step {a x : AskV} {S : AskS} {f : List Nat} {w W : World} {ba bb bi pos c : Nat} {v : Value} (hp : pos < f.length) (ht : f.take (pos + 1) = f.take pos ++ [c]) (hx : x = bareA a (f.take pos)) (hv : v = .bool (okTo a (f.take pos) && okF a c)) (h : RgtW a (setB a x c) S f w ba bb bi (pos + 1) W) :
    RgtRel2 a S f w ba bb bi v W ∧ W.iterPos bi = pos + 1 :=
  ⟨⟨pos + 1, setB a x c, hp, by rw [hv, ht, okTo_snoc], by rw [ht, bareA_snoc, hx], h⟩, h.pos_⟩

/-! plain -/
def keyV (a : AskV) : Value := .agg #[.int .u8 a.kind, .int .i64 a.request, .int .i64 a.qty, .string ⟨a.item.toArray⟩, .int .i64 a.day, .int .i64 a.days, .int .i64 a.rank, .int .i64 a.lot, .int .i64 a.line]
set_option maxRecDepth 100000 in
theorem plain_any (a : AskV) (S : AskS) (w : World) : Calls Tryz.prog 52 #[.agg (askC a S)] w (RetNew (keyV a) w) := by
  obtain ⟨kind, request, item, qty, day, days, rank, lot, line, parts, others⟩ := a
  obtain ⟨⟨PA, Pn, Pc⟩, ⟨OA, On, Oc⟩⟩ := S
  unfold askC keyV strV
  simp only
  go_enter Tryz.func52, Tryz.ntmps52
  go_wp2_with fail
  refine bodyPost_ret (v := .agg #[.int .u8 kind, .int .i64 request, .int .i64 qty, .string ⟨item.toArray⟩, .int .i64 day, .int .i64 days, .int .i64 rank, .int .i64 lot, .int .i64 line]) (by simp [results, Tryz.results52, go_sem]) rfl ⟨rfl, ?_⟩
  exact ((Turned.refl (fun _ => False) w).alloc _).alloc _
theorem str_beq (x y : List UInt8) : ((⟨x.toArray⟩ : ByteArray).toList == (⟨y.toArray⟩ : ByteArray).toList) = decide (x = y) := by
  rw [ByteArray.toList_eq, ByteArray.toList_eq]
  by_cases h : x = y
  · rw [h]; simp
  · rw [decide_eq_false h]; exact beq_eq_false_iff_ne.2 h
set_option maxRecDepth 100000 in
set_option maxHeartbeats 2000000 in
theorem key_run (a b : AskV) (t : Act) (o : Oper) (i j : Nat) (ho : o.op = Op.binOp BinOp.eql 100 (.tmp i) (.tmp j) 100) (h1 : t.eval (.tmp i) = keyV a) (h2 : t.eval (.tmp j) = keyV b) (w : World) :
    (execOp t.eval o).run Tryz.prog w = .ok (.value (.bool (plainB a b))) w := by
  obtain ⟨kind, request, item, qty, day, days, rank, lot, line, parts, others⟩ := a
  obtain ⟨xk, xr, xi, xq, xd, xl, xa, xt, xn, xp, xo⟩ := b
  unfold keyV at h1 h2
  unfold plainB
  simp only at h1 h2 ⊢
  simp only [execOp, ho, h1, h2]
  have hs := str_beq item xi
  generalize (⟨item.toArray⟩ : ByteArray).toList = u at hs
  by_cases e0 : kind = xk
  · by_cases e1 : request = xr
    · by_cases e2 : qty = xq
      · by_cases e3 : item = xi
        · by_cases e4 : day = xd
          · by_cases e5 : days = xl
            · by_cases e6 : rank = xa
              · by_cases e7 : lot = xt
                · by_cases e8 : line = xn
                  · subst e0 e1 e2 e3 e4 e5 e6 e7 e8
                    simp
                    go_simp
                  · go_simp
                · go_simp
              · go_simp
            · go_simp
          · go_simp
        · go_simp
      · go_simp
    · go_simp
  · go_simp
end Go.Proofs.YtglojnmcbochaaaGreatDoor

