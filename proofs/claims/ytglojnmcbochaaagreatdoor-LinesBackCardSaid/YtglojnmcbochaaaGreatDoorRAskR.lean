/-
  ask.Right: whether a command is right. Conditions: ask.kinds holds what its initialiser lays; at most 1000000 parts.
-/
import Derived.Test.YtglojnmcbochaaaGreatDoorRAskB
import Derived.Test.YtglojnmcbochaaaGreatDoorRRegB
import Derived.StillTailTactics
namespace Go.Proofs.YtglojnmcbochaaaGreatDoor
open Go.RowKit Go.Maps
set_option linter.unusedVariables false
set_option linter.unusedSimpArgs false

def Sl.nil : Sl := ⟨none, 0, 0⟩
def AskS.nil : AskS := ⟨Sl.nil, Sl.nil⟩
theorem Blk.iter {w : World} {g : Nat} {t : TypeId} {cs : Array Value} (h : Blk w g t cs) {k : Nat} (hk : g ≠ k) (s : ByteArray) (p : Nat) : Blk (w.iterAt k s p) g t cs := by
  unfold Blk at h ⊢
  simp only [World.iterAt]
  rw [Array.getElem?_setIfInBounds_ne (by omega)]
  exact h
/-- A command that lies in block g. -/
def AskAt (w : World) (g : Nat) (a : AskV) (S : AskS) : Prop := Blk w g 28 (askC a S)
section
variable {w w' : World} {g : Nat} {a : AskV} {S : AskS}
theorem AskAt.turned {W : Nat → Prop} (h : AskAt w g a S) (ht : Turned W w w') (hg : ¬ W g) : AskAt w' g a S := Blk.turned h ht hg
theorem AskAt.fresh (h : AskAt w g a S) (ht : Turned (fun _ => False) w w') : AskAt w' g a S := Blk.turned h ht (fun e => e)
theorem AskAt.lt (h : AskAt w g a S) : g < w.heap.size := Blk.lt h
theorem AskAt.cells (h : AskAt w g a S) : w.cell? ⟨g, 0, none⟩ = some (.int .u8 a.kind) ∧ w.cell? ⟨g, 1, none⟩ = some (.int .i64 a.request) ∧ w.cell? ⟨g, 2, none⟩ = some (.string ⟨a.item.toArray⟩) ∧ w.cell? ⟨g, 3, none⟩ = some (.int .i64 a.qty) ∧ w.cell? ⟨g, 4, none⟩ = some (.int .i64 a.day) ∧ w.cell? ⟨g, 5, none⟩ = some (.int .i64 a.days) ∧ w.cell? ⟨g, 6, none⟩ = some (.int .i64 a.rank) ∧ w.cell? ⟨g, 7, none⟩ = some (.int .i64 a.lot) ∧ w.cell? ⟨g, 8, none⟩ = some (.int .i64 a.line) ∧ w.cell? ⟨g, 9, none⟩ = some (.slice S.P.A S.P.n S.P.c) ∧ w.cell? ⟨g, 10, none⟩ = some (.slice S.O.A S.O.n S.O.c) := Blk.cells11 h
end
/-- The loop's two commands and its iterator. -/
structure RgtW (a x : AskV) (S : AskS) (f : List Nat) (w : World) (ba bb bi pos : Nat) (W : World) : Prop where
  aa : AskAt W ba a S
  bare : AskAt W bb x AskS.nil
  it : W.heap[bi]? = some (.stringIter (fBA f) pos)
  t : Turned (fun _ => False) w W
section
variable {a x : AskV} {S : AskS} {f : List Nat} {w W W' : World} {ba bb bi pos : Nat}
theorem heap_lt {w : World} {k : Nat} {o : Obj} (h : w.heap[k]? = some o) : k < w.heap.size := by
  rcases Nat.lt_or_ge k w.heap.size with hl | hg
  · exact hl
  · rw [Array.getElem?_eq_none hg] at h; cases h
theorem RgtW.fresh (h : RgtW a x S f w ba bb bi pos W) (ht : Turned (fun _ => False) W W') : RgtW a x S f w ba bb bi pos W' :=
  ⟨h.aa.fresh ht, h.bare.fresh ht, (ht.block bi (heap_lt h.it) (fun e => e)).trans h.it, h.t.and_ ht⟩
theorem RgtW.iter (h : RgtW a x S f w ba bb bi pos W) (h1 : ba ≠ bi) (h2 : bb ≠ bi) (h3 : w.heap.size ≤ bi) : RgtW a x S f w ba bb bi (pos + 1) (W.iterAt bi (fBA f) (pos + 1)) :=
  ⟨Blk.iter h.aa h1 _ _, Blk.iter h.bare h2 _ _, Lib.iterAt_heap _ _ _ _ _ h.it, h.t.iterAt h3 _ _⟩
theorem RgtW.store {x' : AskV} (h : RgtW a x S f w ba bb bi pos W) (h1 : ba ≠ bb) (h2 : bb ≠ bi) (h3 : w.heap.size ≤ bb) (i : Nat) (v : Value) (hx : (askC x AskS.nil).setIfInBounds i v = askC x' AskS.nil) : RgtW a x' S f w ba bb bi pos (W.setCell ⟨bb, i, none⟩ v) :=
  ⟨Blk.far h.aa h1 v, by have := Blk.set_ h.bare i v; rw [hx] at this; exact this, (Below.heap_setCell W ⟨bb, i, none⟩ v bi (fun e => h2 e.symm)).trans h.it, h.t.setCell (.inr h3) v⟩
theorem RgtW.pos_ (h : RgtW a x S f w ba bb bi pos W) : W.iterPos bi = pos := by simp [World.iterPos, h.it]
end
def RgtRel2 (a : AskV) (S : AskS) (f : List Nat) (w : World) (ba bb bi : Nat) (v : Value) (wr : World) : Prop :=
  ∃ (pos : Nat) (x : AskV), pos ≤ f.length ∧ v = .bool (okTo a (f.take pos)) ∧ x = bareA a (f.take pos) ∧ RgtW a x S f w ba bb bi pos wr
theorem RgtRel2.step {a x : AskV} {S : AskS} {f : List Nat} {w W : World} {ba bb bi pos c : Nat} {v : Value} (hp : pos < f.length) (ht : f.take (pos + 1) = f.take pos ++ [c]) (hx : x = bareA a (f.take pos)) (hv : v = .bool (okTo a (f.take pos) && okF a c)) (h : RgtW a (setB a x c) S f w ba bb bi (pos + 1) W) :
    RgtRel2 a S f w ba bb bi v W ∧ W.iterPos bi = pos + 1 :=
  ⟨⟨pos + 1, setB a x c, hp, by rw [hv, ht, okTo_snoc], by rw [ht, bareA_snoc, hx], h⟩, h.pos_⟩

/-! plain -/
def keyV (a : AskV) : Value := .agg #[.int .u8 a.kind, .int .i64 a.request, .int .i64 a.qty, .string ⟨a.item.toArray⟩, .int .i64 a.day, .int .i64 a.days, .int .i64 a.rank, .int .i64 a.lot, .int .i64 a.line]
set_option maxRecDepth 100000 in
theorem plain_any (a : AskV) (S : AskS) (w : World) : Calls Tryz.prog 52 #[.agg (askC a S)] w (RetNew (keyV a) w) := by
  obtain ⟨kind, request, item, qty, day, days, rank, lot, line, parts, others⟩ := a
  obtain ⟨⟨PA, Pn, Pc⟩, ⟨OA, On, Oc⟩⟩ := S
  unfold askC keyV strV
  simp only
  go_enter Tryz.func52, Tryz.ntmps52
  go_wp2_with fail
  refine bodyPost_ret (v := .agg #[.int .u8 kind, .int .i64 request, .int .i64 qty, .string ⟨item.toArray⟩, .int .i64 day, .int .i64 days, .int .i64 rank, .int .i64 lot, .int .i64 line]) (by simp [results, Tryz.results52, go_sem]) rfl ⟨rfl, ?_⟩
  exact ((Turned.refl (fun _ => False) w).alloc _).alloc _
theorem str_beq (x y : List UInt8) : ((⟨x.toArray⟩ : ByteArray).toList == (⟨y.toArray⟩ : ByteArray).toList) = decide (x = y) := by
  rw [ByteArray.toList_eq, ByteArray.toList_eq]
  by_cases h : x = y
  · rw [h]; simp
  · rw [decide_eq_false h]; exact beq_eq_false_iff_ne.2 h
set_option maxRecDepth 100000 in
set_option maxHeartbeats 2000000 in
theorem key_run (a b : AskV) (t : Act) (o : Oper) (i j : Nat) (ho : o.op = Op.binOp BinOp.eql 100 (.tmp i) (.tmp j) 100) (h1 : t.eval (.tmp i) = keyV a) (h2 : t.eval (.tmp j) = keyV b) (w : World) :
    (execOp t.eval o).run Tryz.prog w = .ok (.value (.bool (plainB a b))) w := by
  obtain ⟨kind, request, item, qty, day, days, rank, lot, line, parts, others⟩ := a
  obtain ⟨xk, xr, xi, xq, xd, xl, xa, xt, xn, xp, xo⟩ := b
  unfold keyV at h1 h2
  unfold plainB
  simp only at h1 h2 ⊢
  simp only [execOp, ho, h1, h2]
  have hs := str_beq item xi
  generalize (⟨item.toArray⟩ : ByteArray).toList = u at hs
  by_cases e0 : kind = xk
  · by_cases e1 : request = xr
    · by_cases e2 : qty = xq
      · by_cases e3 : item = xi
        · by_cases e4 : day = xd
          · by_cases e5 : days = xl
            · by_cases e6 : rank = xa
              · by_cases e7 : lot = xt
                · by_cases e8 : line = xn
                  · subst e0 e1 e2 e3 e4 e5 e6 e7 e8
                    simp
                    go_simp
                  · go_simp
                · go_simp
              · go_simp
            · go_simp
          · go_simp
        · go_simp
      · go_simp
    · go_simp
  · go_simp
end Go.Proofs.YtglojnmcbochaaaGreatDoor

