/-
  ytijmfglgeaaoaaagreatdoor: laws and walks on the road to AskNumbers, joined: AskN AskR. Conditions stand at each theorem.
-/
import Derived.Test.YtijmfglgeaaoaaaGreatDoorQAskB
import Derived.Test.YtijmfglgeaaoaaaGreatDoorQRegD
import Derived.IntWalk
import Derived.StillTailTactics
namespace Go.Proofs.YtijmfglgeaaoaaaGreatDoor
open Go.RowKit Go.Maps
set_option linter.unusedVariables false
set_option linter.unusedSimpArgs false

theorem u8T : EltT Tryz.prog 22 5 1 1 (.int .u8 0) := ⟨Tryz.underlying22, by kernel_rfl, rfl, by omega⟩
theorem wp_appE {P : Program} {w : World} {S U q bytes : Nat} {z : Value} {A : Option Addr} {n c : Nat} {xs : List Value} {o : Oper} {a : Act} {K : Act → World → Prop} {Q : Exit → Act → World → Prop} (E : EltT P S U q bytes z) (s x : Operand) (ho : o.op = .call { callee := .builtin .append, args := #[s, x], argTypes := #[S, S] })
    (h : OwnE w U q A n c xs) (ad : Addr) (m cc : Nat) (ys : List Value) (hl : ys.length = m * q) (hnews : ∀ j u, ys[j]? = some u → w.cell? (ad.add j) = some u) (h1 : ∀ u ∈ ys, u.oneCell' = true) (hm : 0 < m) (hmx : n + m ≤ maxLen) (hb : (n + m) * bytes ≤ 140737488355328) (hs : a.eval s = .slice A n c) (hx : a.eval x = .slice (some ad) m cc)
    (hC : ∀ A' c' w', OwnE w' U q A' (n + m) c' (xs ++ ys) → App2 w w' A A' c c' → K (a.put o.dst (.slice A' (n + m) c')) w') : o.wp P a w K Q := by
  obtain ⟨A', c', w', hrun, h2, h3⟩ := run_appE (ty := o.type) E h ad m cc ys hl hnews h1 hm hmx hb
  exact Lib.wp_append_run w s x S S ho _ _ hs hx _ _ hrun (hC A' c' w' h2 h3)
theorem u8s_app (a b : List Int) : u8s (a ++ b) = u8s a ++ u8s b := by simp [u8s]
/-- append of bytes that lie in memory of their own. -/
theorem wp_appB {w : World} {A A2 : Option Addr} {n c m c2 : Nat} {zs ys : List Int} {o : Oper} {a : Act} {K : Act → World → Prop} {Q : Exit → Act → World → Prop} (s x : Operand) (ho : o.op = .call { callee := .builtin .append, args := #[s, x], argTypes := #[22, 22] })
    (h : OwnV w A n c zs) (h2 : OwnV w A2 m c2 ys) (hm : 0 < m) (hb : n + m ≤ 140737488355328) (hs : a.eval s = .slice A n c) (hx : a.eval x = .slice A2 m c2)
    (hC : ∀ A' c' w', OwnV w' A' (n + m) c' (zs ++ ys) → App2 w w' A A' c c' → K (a.put o.dst (.slice A' (n + m) c')) w') : o.wp Tryz.prog a w K Q := by
  obtain ⟨g, rfl, hr⟩ := h2.some_ hm
  refine wp_appE u8T s x ho (h : OwnE w 5 1 A n c (u8s zs)) ⟨g, 0, none⟩ m c2 (u8s ys) (by rw [u8s_length, h2.len, Nat.mul_one]) (news_of_row hr) (u8s_one ys) hm (by unfold maxLen; omega) (by omega) hs hx ?_
  intro A' c' w' ho' hor
  rw [← u8s_app] at ho'
  exact hC A' c' w' ho' hor
def ANumRel (n : Int) (k : Nat) (w : World) (i : Value) (wr : World) : Prop :=
  ∃ j : Nat, j ≤ k ∧ i = .int .i64 j ∧ RowB wr 5 w.heap.size k k (beTo k n j ++ List.replicate (k - j) 0) ∧ Turned (fun _ => False) w wr
theorem be_set (k : Nat) (n : Int) (j : Nat) (hj : j < k) : (beTo k n j ++ List.replicate (k - j) 0).set j (beAt k n j) = beTo k n (j + 1) ++ List.replicate (k - (j + 1)) 0 := by
  rw [show k - j = (k - (j + 1)) + 1 by omega, List.replicate_succ, List.set_append_right _ _ (by rw [beTo_length]; omega), beTo_length, Nat.sub_self, List.set_cons_zero, beTo_succ, List.append_assoc]
  rfl
set_option maxRecDepth 100000 in
set_option maxHeartbeats 1000000 in
theorem anum_any (n : Int) (k : Nat) (w : World) (hk1 : 1 ≤ k) (hk : k ≤ 8) : Calls Tryz.prog 43 #[.int .i64 n, .int .i64 k] w (PutPost (be k n) w) := by
  obtain ⟨i0, hi, hz0, hz1, hz2⟩ := info_parts u8info
  go_enter Tryz.func43, Tryz.ntmps43
  go_wp2_with (at_make; refine wpList_make_full _ rfl _ _ 22 rfl w.heap.size 5 i0 (.int .u8 0) 1 Tryz.underlying22 hi hz0 hz1 .i64 .i64 _ _ k rfl rfl rfl rfl (by rw [hz2]; omega) (by unfold maxLen; omega) (Nat.le_refl _) ?_; intro w1 hown hg1)
  have hrow : RowB w1 5 w.heap.size k k (beTo k n 0 ++ List.replicate (k - 0) 0) := by
    rw [made_u8] at hown
    have := RowB.of_own hown
    rw [show beTo k n 0 = [] from rfl, List.nil_append, Nat.sub_zero]
    exact this
  have ht1 : Turned (fun _ => False) w w1 := (Turned.refl _ w).grown hg1 (by simp)
  have hwl : w.heap.size < w1.heap.size := hrow.lt
  clear hown hg1
  go_loopw [11] (fun i wr => ANumRel n k w i wr) (fun i _ => k - (intOf i).toNat)
  case atStart => exact ⟨0, by omega, rfl, hrow, ht1⟩
  case round =>
    obtain ⟨j, hj, rfl, hr, ht⟩ := hrel
    by_cases hlt : j < k
    · obtain ⟨m, hm⟩ : ∃ m : Nat, m = k - 1 - j := ⟨_, rfl⟩
      have hmi : (k : Int) - 1 - (j : Int) = (m : Int) := by omega
      have hm7 : m ≤ 7 := by omega
      have hx := Lib.hid (show beAt k n j = n / 2 ^ (8 * m) % 256 by unfold beAt; rw [hm])
      have hset := Lib.hid (be_set k n j hlt)
      have hc := hr.cell (i := j) (by omega)
      have hf := hr.frozen j
      have hj' : (j : Int) < (k : Int) := by omega
      have h8 : (0 : Int) ≤ 8 * (m : Int) := by omega
      have h8b : 8 * (m : Int) ≤ 56 := by omega
      have hw8 : IntKind.i64.wrap (8 * (m : Int)) = 8 * (m : Int) := IntWalk.i64_in _ (by omega)
      have hr' := Lib.hid hr
      clear hr hm
      go_wp2
      have R := Lib.hid (show ANumRel n k w (.int .i64 ((j + 1 : Nat) : Int)) (wr.setCell ⟨w.heap.size, j, none⟩ (.int .u8 (n / 2 ^ (8 * m) % 256))) from ⟨j + 1, hlt, rfl, by rw [← hset.out, hx.out]; exact hr'.out.set j _, ht.setCell (.inr (Nat.le_refl _)) _⟩)
      go_roundw
      case rel =>
        first
        | exact R.out
        | ((repeat apply Exists.intro); exact ⟨R.out, rfl⟩)
      case measure => simp [intOf]; omega
    · have hjn : j = k := by omega
      subst hjn
      have hr' := Lib.hid hr
      clear hr hj
      go_wp2
      go_ret
      have h2 := hr'.out
      rw [Nat.sub_self, List.replicate_zero, List.append_nil] at h2
      have hl : (be j n).length = j := be_length j n
      exact ⟨some ⟨w.heap.size, 0, none⟩, j, by rw [hl]; rfl, by rw [hl]; exact OwnV.of_row h2, (fun g e => by injection e with e; injection e with e; omega), ht⟩
end Go.Proofs.YtijmfglgeaaoaaaGreatDoor

namespace Go.Proofs.YtijmfglgeaaoaaaGreatDoor
open Go.RowKit Go.Maps
set_option linter.unusedVariables false
set_option linter.unusedSimpArgs false

def Sl.nil : Sl := ⟨none, 0, 0⟩
def AskS.nil : AskS := ⟨Sl.nil, Sl.nil⟩
theorem Blk.iter {w : World} {g : Nat} {t : TypeId} {cs : Array Value} (h : Blk w g t cs) {k : Nat} (hk : g ≠ k) (s : ByteArray) (p : Nat) : Blk (w.iterAt k s p) g t cs := by
  unfold Blk at h ⊢
  simp only [World.iterAt]
  rw [Array.getElem?_setIfInBounds_ne (by omega)]
  exact h
/-- A command that lies in block g. -/
def AskAt (w : World) (g : Nat) (a : AskV) (S : AskS) : Prop := Blk w g 29 (askC a S)
section
variable {w w' : World} {g : Nat} {a : AskV} {S : AskS}
theorem AskAt.turned {W : Nat → Prop} (h : AskAt w g a S) (ht : Turned W w w') (hg : ¬ W g) : AskAt w' g a S := Blk.turned h ht hg
theorem AskAt.fresh (h : AskAt w g a S) (ht : Turned (fun _ => False) w w') : AskAt w' g a S := Blk.turned h ht (fun e => e)
theorem AskAt.lt (h : AskAt w g a S) : g < w.heap.size := Blk.lt h
theorem AskAt.cells (h : AskAt w g a S) : w.cell? ⟨g, 0, none⟩ = some (.int .u8 a.kind) ∧ w.cell? ⟨g, 1, none⟩ = some (.int .i64 a.request) ∧ w.cell? ⟨g, 2, none⟩ = some (.string ⟨a.item.toArray⟩) ∧ w.cell? ⟨g, 3, none⟩ = some (.int .i64 a.qty) ∧ w.cell? ⟨g, 4, none⟩ = some (.int .i64 a.day) ∧ w.cell? ⟨g, 5, none⟩ = some (.int .i64 a.days) ∧ w.cell? ⟨g, 6, none⟩ = some (.int .i64 a.rank) ∧ w.cell? ⟨g, 7, none⟩ = some (.int .i64 a.lot) ∧ w.cell? ⟨g, 8, none⟩ = some (.int .i64 a.line) ∧ w.cell? ⟨g, 9, none⟩ = some (.slice S.P.A S.P.n S.P.c) ∧ w.cell? ⟨g, 10, none⟩ = some (.slice S.O.A S.O.n S.O.c) := Blk.cells11 h
end
/-- The loop's two commands and its iterator. -/
structure RgtW (a x : AskV) (S : AskS) (f : List Nat) (w : World) (ba bb bi pos : Nat) (W : World) : Prop where
  aa : AskAt W ba a S
  bare : AskAt W bb x AskS.nil
  it : W.heap[bi]? = some (.stringIter (fBA f) pos)
  t : Turned (fun _ => False) w W
section
variable {a x : AskV} {S : AskS} {f : List Nat} {w W W' : World} {ba bb bi pos : Nat}
theorem heap_lt {w : World} {k : Nat} {o : Obj} (h : w.heap[k]? = some o) : k < w.heap.size := by
  rcases Nat.lt_or_ge k w.heap.size with hl | hg
  · exact hl
  · rw [Array.getElem?_eq_none hg] at h; cases h
theorem RgtW.fresh (h : RgtW a x S f w ba bb bi pos W) (ht : Turned (fun _ => False) W W') : RgtW a x S f w ba bb bi pos W' :=
  ⟨h.aa.fresh ht, h.bare.fresh ht, (ht.block bi (heap_lt h.it) (fun e => e)).trans h.it, h.t.and_ ht⟩
theorem RgtW.iter (h : RgtW a x S f w ba bb bi pos W) (h1 : ba ≠ bi) (h2 : bb ≠ bi) (h3 : w.heap.size ≤ bi) : RgtW a x S f w ba bb bi (pos + 1) (W.iterAt bi (fBA f) (pos + 1)) :=
  ⟨Blk.iter h.aa h1 _ _, Blk.iter h.bare h2 _ _, Lib.iterAt_heap _ _ _ _ _ h.it, h.t.iterAt h3 _ _⟩
theorem RgtW.store {x' : AskV} (h : RgtW a x S f w ba bb bi pos W) (h1 : ba ≠ bb) (h2 : bb ≠ bi) (h3 : w.heap.size ≤ bb) (i : Nat) (v : Value) (hx : (askC x AskS.nil).setIfInBounds i v = askC x' AskS.nil) : RgtW a x' S f w ba bb bi pos (W.setCell ⟨bb, i, none⟩ v) :=
  ⟨Blk.far h.aa h1 v, by have := Blk.set_ h.bare i v; rw [hx] at this; exact this, (Below.heap_setCell W ⟨bb, i, none⟩ v bi (fun e => h2 e.symm)).trans h.it, h.t.setCell (.inr h3) v⟩
theorem RgtW.pos_ (h : RgtW a x S f w ba bb bi pos W) : W.iterPos bi = pos := by simp [World.iterPos, h.it]
end
def RgtRel2 (a : AskV) (S : AskS) (f : List Nat) (w : World) (ba bb bi : Nat) (v : Value) (wr : World) : Prop :=
  ∃ (pos : Nat) (x : AskV), pos ≤ f.length ∧ v = .bool (okTo a (f.take pos)) ∧ x = bareA a (f.take pos) ∧ RgtW a x S f w ba bb bi pos wr
theorem RgtRel2.step {a x : AskV} {S : AskS} {f : List Nat} {w W : World} {ba bb bi pos c : Nat} {v : Value} (hp : pos < f.length) (ht : f.take (pos + 1) = f.take pos ++ [c]) (hx : x = bareA a (f.take pos)) (hv : v = .bool (okTo a (f.take pos) && okF a c)) (h : RgtW a (setB a x c) S f w ba bb bi (pos + 1) W) :
    RgtRel2 a S f w ba bb bi v W ∧ W.iterPos bi = pos + 1 :=
  ⟨⟨pos + 1, setB a x c, hp, by rw [hv, ht, okTo_snoc], by rw [ht, bareA_snoc, hx], h⟩, h.pos_⟩

/-! plain -/
def keyV (a : AskV) : Value := .agg #[.int .u8 a.kind, .int .i64 a.request, .int .i64 a.qty, .string ⟨a.item.toArray⟩, .int .i64 a.day, .int .i64 a.days, .int .i64 a.rank, .int .i64 a.lot, .int .i64 a.line]
set_option maxRecDepth 100000 in
theorem plain_any (a : AskV) (S : AskS) (w : World) : Calls Tryz.prog 52 #[.agg (askC a S)] w (RetNew (keyV a) w) := by
  obtain ⟨kind, request, item, qty, day, days, rank, lot, line, parts, others⟩ := a
  obtain ⟨⟨PA, Pn, Pc⟩, ⟨OA, On, Oc⟩⟩ := S
  unfold askC keyV strV
  simp only
  go_enter Tryz.func52, Tryz.ntmps52
  go_wp2_with fail
  refine bodyPost_ret (v := .agg #[.int .u8 kind, .int .i64 request, .int .i64 qty, .string ⟨item.toArray⟩, .int .i64 day, .int .i64 days, .int .i64 rank, .int .i64 lot, .int .i64 line]) (by simp [results, Tryz.results52, go_sem]) rfl ⟨rfl, ?_⟩
  exact ((Turned.refl (fun _ => False) w).alloc _).alloc _
theorem str_beq (x y : List UInt8) : ((⟨x.toArray⟩ : ByteArray).toList == (⟨y.toArray⟩ : ByteArray).toList) = decide (x = y) := by
  rw [ByteArray.toList_eq, ByteArray.toList_eq]
  by_cases h : x = y
  · rw [h]; simp
  · rw [decide_eq_false h]; exact beq_eq_false_iff_ne.2 h
set_option maxRecDepth 100000 in
set_option maxHeartbeats 2000000 in
theorem key_run (a b : AskV) (t : Act) (o : Oper) (i j : Nat) (ho : o.op = Op.binOp BinOp.eql 100 (.tmp i) (.tmp j) 100) (h1 : t.eval (.tmp i) = keyV a) (h2 : t.eval (.tmp j) = keyV b) (w : World) :
    (execOp t.eval o).run Tryz.prog w = .ok (.value (.bool (plainB a b))) w := by
  obtain ⟨kind, request, item, qty, day, days, rank, lot, line, parts, others⟩ := a
  obtain ⟨xk, xr, xi, xq, xd, xl, xa, xt, xn, xp, xo⟩ := b
  unfold keyV at h1 h2
  unfold plainB
  simp only at h1 h2 ⊢
  simp only [execOp, ho, h1, h2]
  have hs := str_beq item xi
  generalize (⟨item.toArray⟩ : ByteArray).toList = u at hs
  by_cases e0 : kind = xk
  · by_cases e1 : request = xr
    · by_cases e2 : qty = xq
      · by_cases e3 : item = xi
        · by_cases e4 : day = xd
          · by_cases e5 : days = xl
            · by_cases e6 : rank = xa
              · by_cases e7 : lot = xt
                · by_cases e8 : line = xn
                  · subst e0 e1 e2 e3 e4 e5 e6 e7 e8
                    simp
                    go_simp
                  · go_simp
                · go_simp
              · go_simp
            · go_simp
          · go_simp
        · go_simp
      · go_simp
    · go_simp
  · go_simp
end Go.Proofs.YtijmfglgeaaoaaaGreatDoor

