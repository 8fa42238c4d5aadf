/-
 ytglojnmcbochaaagreatdoor: laws and walks on the road to LinesNumbers, joined: AskN AskG AskR AskH RdFh. Conditions stand at each theorem.
-/
import Derived.Test.YtglojnmcbochaaaGreatDoorUAskB
import Derived.Test.YtglojnmcbochaaaGreatDoorURegD
import Derived.IntWalk
import Derived.StillTailTactics
import Derived.Test.YtglojnmcbochaaaGreatDoorUShf
namespace Go.Proofs.YtglojnmcbochaaaGreatDoor
open Go.RowKit Go.Maps
set_option linter.unusedVariables false
set_option linter.unusedSimpArgs false

theorem wp_appE {P : Program} {w : World} {S U q bytes : Nat} {z : Value} {A : Option Addr} {n c : Nat} {xs : List Value} {o : Oper} {a : Act} {K : Act → World → Prop} {Q : Exit → Act → World → Prop} (E : EltT P S U q bytes z) (s x : Operand) (ho : o.op = .call { callee := .builtin .append, args := #[s, x], argTypes := #[S, S] })
  (h : OwnE w U q A n c xs) (ad : Addr) (m cc : Nat) (ys : List Value) (hl : ys.length = m * q) (hnews : ∀ j u, ys[j]? = some u → w.cell? (ad.add j) = some u) (h1 : ∀ u ∈ ys, u.oneCell' = true) (hm : 0 < m) (hmx : n + m ≤ maxLen) (hb : (n + m) * bytes ≤ 140737488355328) (hs : a.eval s = .slice A n c) (hx : a.eval x = .slice (some ad) m cc)
  (hC : ∀ A' c' w', OwnE w' U q A' (n + m) c' (xs ++ ys) → App2 w w' A A' c c' → K (a.put o.dst (.slice A' (n + m) c')) w') : o.wp P a w K Q := by
 obtain ⟨A', c', w', hrun, h2, h3⟩ := run_appE (ty := o.type) E h ad m cc ys hl hnews h1 hm hmx hb
 exact Lib.wp_append_run w s x S S ho _ _ hs hx _ _ hrun (hC A' c' w' h2 h3)
end Go.Proofs.YtglojnmcbochaaaGreatDoor

namespace Go.Proofs.YtglojnmcbochaaaGreatDoor
open Go.RowKit Go.Maps
set_option linter.unusedVariables false
set_option linter.unusedSimpArgs false

theorem BytS.turned0 {w w' : World} {W : Nat → Prop} {A : Option Addr} {n c : Nat} {zs : List Int} (h : BytS w A n c zs) (ht : Turned W w w') (hW : 0 < n → ∀ b o, A = some ⟨b, o, none⟩ → ¬ W b) : BytS w' A n c zs :=
 ⟨⟨h.len, h.max, fun hn => by
  obtain ⟨b, off, e, hc⟩ := h.cell hn
  exact ⟨b, off, e, fun j hj => cell_turned ht (hc j hj) (hW hn b off e)⟩⟩, h.nil_⟩
structure GetW (A : Option Addr) (n c : Nat) (zs : List Int) (B bok bat bbx : Nat) (s : Option (List Int)) (pz : Nat) (w : World) : Prop where
 ok : Blk w bok 4 #[.bool s.isSome]
 at_ : Blk w bat 3 #[.int .i64 (pz : Int)]
 bx : Blk w bbx 106 #[.slice A n c]
 byt : BytS w A n c zs
 le : pz ≤ n
 is_ : ∀ r, s = some r → r = zs.drop pz
 far : 0 < n → ∀ b o, A = some ⟨b, o, none⟩ → b < B
 b1 : B ≤ bok
 b2 : B ≤ bat
 nc : n ≤ c
 cm : c ≤ maxLen
 few : n ≤ 1000000
section
variable {A : Option Addr} {n c : Nat} {zs : List Int} {B bok bat bbx : Nat} {s : Option (List Int)} {pz : Nat} {w w' : World}
theorem GetW.turned {W : Nat → Prop} (h : GetW A n c zs B bok bat bbx s pz w) (ht : Turned W w w') (hW : ∀ i, W i → i ≠ bok ∧ i ≠ bat ∧ i ≠ bbx ∧ B ≤ i) : GetW A n c zs B bok bat bbx s pz w' :=
 ⟨h.ok.turned ht (fun e => (hW _ e).1 rfl), h.at_.turned ht (fun e => (hW _ e).2.1 rfl), h.bx.turned ht (fun e => (hW _ e).2.2.1 rfl), h.byt.turned0 ht (fun hn b o e e2 => by have := h.far hn b o e; have := (hW _ e2).2.2.2; omega), h.le, h.is_, h.far, h.b1, h.b2, h.nc, h.cm, h.few⟩
theorem GetW.fresh (h : GetW A n c zs B bok bat bbx s pz w) (ht : Turned (fun _ => False) w w') : GetW A n c zs B bok bat bbx s pz w' := h.turned ht (fun _ e => e.elim)
theorem GetW.ne2 (h : GetW A n c zs B bok bat bbx s pz w) : bbx ≠ bok := Blk.ne_ h.bx h.ok (by decide)
theorem GetW.ne3 (h : GetW A n c zs B bok bat bbx s pz w) : bbx ≠ bat := Blk.ne_ h.bx h.at_ (by decide)
theorem GetW.put (h : GetW A n c zs B bok bat bbx s pz w) {s' : Option (List Int)} {at' : Nat} (ht : Turned (fun i => i = bok ∨ i = bat) w w') (h1 : Blk w' bok 4 #[.bool s'.isSome]) (h2 : Blk w' bat 3 #[.int .i64 (at' : Int)]) (hle : at' ≤ n) (his : ∀ r, s' = some r → r = zs.drop at') : GetW A n c zs B bok bat bbx s' at' w' :=
 ⟨h1, h2, h.bx.turned ht (fun e => by
  rcases e with e | e
  ·exact h.ne2 e
  ·exact h.ne3 e), h.byt.turned0 ht (fun hn b o e e2 => by
  have := h.far hn b o e
  have k1 := h.b1
  have k2 := h.b2
  rcases e2 with e2 | e2 <;> omega), hle, his, h.far, h.b1, h.b2, h.nc, h.cm, h.few⟩
end
def BoxT (bok bat : Nat) (i : Nat) : Prop := i = bok ∨ i = bat
end Go.Proofs.YtglojnmcbochaaaGreatDoor

namespace Go.Proofs.YtglojnmcbochaaaGreatDoor
open Go.RowKit Go.Maps
set_option linter.unusedVariables false
set_option linter.unusedSimpArgs false

def Sl.nil : Sl := ⟨none, 0, 0⟩
def AskS.nil : AskS := ⟨Sl.nil, Sl.nil⟩
theorem Blk.iter {w : World} {g : Nat} {t : TypeId} {cs : Array Value} (h : Blk w g t cs) {k : Nat} (hk : g ≠ k) (s : ByteArray) (p : Nat) : Blk (w.iterAt k s p) g t cs := by
 unfold Blk at h ⊢
 simp only [World.iterAt]
 rw [Array.getElem?_setIfInBounds_ne (by omega)]
 exact h
def AskAt (w : World) (g : Nat) (a : AskV) (S : AskS) : Prop := Blk w g 28 (askC a S)
section
variable {w w' : World} {g : Nat} {a : AskV} {S : AskS}
theorem AskAt.turned {W : Nat → Prop} (h : AskAt w g a S) (ht : Turned W w w') (hg : ¬ W g) : AskAt w' g a S := Blk.turned h ht hg
theorem AskAt.fresh (h : AskAt w g a S) (ht : Turned (fun _ => False) w w') : AskAt w' g a S := Blk.turned h ht (fun e => e)
theorem AskAt.lt (h : AskAt w g a S) : g < w.heap.size := Blk.lt h
theorem AskAt.cells (h : AskAt w g a S) : w.cell? ⟨g, 0, none⟩ = some (.int .u8 a.kind) ∧ w.cell? ⟨g, 1, none⟩ = some (.int .i64 a.request) ∧ w.cell? ⟨g, 2, none⟩ = some (.string ⟨a.item.toArray⟩) ∧ w.cell? ⟨g, 3, none⟩ = some (.int .i64 a.qty) ∧ w.cell? ⟨g, 4, none⟩ = some (.int .i64 a.day) ∧ w.cell? ⟨g, 5, none⟩ = some (.int .i64 a.days) ∧ w.cell? ⟨g, 6, none⟩ = some (.int .i64 a.rank) ∧ w.cell? ⟨g, 7, none⟩ = some (.int .i64 a.lot) ∧ w.cell? ⟨g, 8, none⟩ = some (.int .i64 a.line) ∧ w.cell? ⟨g, 9, none⟩ = some (.slice S.P.A S.P.n S.P.c) ∧ w.cell? ⟨g, 10, none⟩ = some (.slice S.O.A S.O.n S.O.c) := Blk.cells11 h
end
structure RgtW (a x : AskV) (S : AskS) (f : List Nat) (w : World) (ba bb bi pos : Nat) (W : World) : Prop where
 aa : AskAt W ba a S
 bare : AskAt W bb x AskS.nil
 it : W.heap[bi]? = some (.stringIter (fBA f) pos)
 t : Turned (fun _ => False) w W
section
variable {a x : AskV} {S : AskS} {f : List Nat} {w W W' : World} {ba bb bi pos : Nat}
theorem heap_lt {w : World} {k : Nat} {o : Obj} (h : w.heap[k]? = some o) : k < w.heap.size := by
 rcases Nat.lt_or_ge k w.heap.size with hl | hg
 ·exact hl
 ·rw [Array.getElem?_eq_none hg] at h; cases h
theorem RgtW.fresh (h : RgtW a x S f w ba bb bi pos W) (ht : Turned (fun _ => False) W W') : RgtW a x S f w ba bb bi pos W' :=
 ⟨h.aa.fresh ht, h.bare.fresh ht, (ht.block bi (heap_lt h.it) (fun e => e)).trans h.it, h.t.and_ ht⟩
theorem RgtW.iter (h : RgtW a x S f w ba bb bi pos W) (h1 : ba ≠ bi) (h2 : bb ≠ bi) (h3 : w.heap.size ≤ bi) : RgtW a x S f w ba bb bi (pos + 1) (W.iterAt bi (fBA f) (pos + 1)) :=
 ⟨Blk.iter h.aa h1 _ _, Blk.iter h.bare h2 _ _, Lib.iterAt_heap _ _ _ _ _ h.it, h.t.iterAt h3 _ _⟩
theorem RgtW.store {x' : AskV} (h : RgtW a x S f w ba bb bi pos W) (h1 : ba ≠ bb) (h2 : bb ≠ bi) (h3 : w.heap.size ≤ bb) (i : Nat) (v : Value) (hx : (askC x AskS.nil).setIfInBounds i v = askC x' AskS.nil) : RgtW a x' S f w ba bb bi pos (W.setCell ⟨bb, i, none⟩ v) :=
 ⟨Blk.far h.aa h1 v, by have := Blk.set_ h.bare i v; rw [hx] at this; exact this, (Below.heap_setCell W ⟨bb, i, none⟩ v bi (fun e => h2 e.symm)).trans h.it, h.t.setCell (.inr h3) v⟩
theorem RgtW.pos_ (h : RgtW a x S f w ba bb bi pos W) : W.iterPos bi = pos := by simp [World.iterPos, h.it]
end
def RgtRel2 (a : AskV) (S : AskS) (f : List Nat) (w : World) (ba bb bi : Nat) (v : Value) (wr : World) : Prop :=
 ∃ (pos : Nat) (x : AskV), pos ≤ f.length ∧ v = .bool (okTo a (f.take pos)) ∧ x = bareA a (f.take pos) ∧ RgtW a x S f w ba bb bi pos wr
theorem RgtRel2.step {a x : AskV} {S : AskS} {f : List Nat} {w W : World} {ba bb bi pos c : Nat} {v : Value} (hp : pos < f.length) (ht : f.take (pos + 1) = f.take pos ++ [c]) (hx : x = bareA a (f.take pos)) (hv : v = .bool (okTo a (f.take pos) && okF a c)) (h : RgtW a (setB a x c) S f w ba bb bi (pos + 1) W) :
  RgtRel2 a S f w ba bb bi v W ∧ W.iterPos bi = pos + 1 :=
 ⟨⟨pos + 1, setB a x c, hp, by rw [hv, ht, okTo_snoc], by rw [ht, bareA_snoc, hx], h⟩, h.pos_⟩

/-! plain -/
def keyV (a : AskV) : Value := .agg #[.int .u8 a.kind, .int .i64 a.request, .int .i64 a.qty, .string ⟨a.item.toArray⟩, .int .i64 a.day, .int .i64 a.days, .int .i64 a.rank, .int .i64 a.lot, .int .i64 a.line]
set_option maxRecDepth 100000 in
theorem plain_any (a : AskV) (S : AskS) (w : World) : Calls Tryz.prog 52 #[.agg (askC a S)] w (RetNew (keyV a) w) := by
 obtain ⟨kind, request, item, qty, day, days, rank, lot, line, parts, others⟩ := a
 obtain ⟨⟨PA, Pn, Pc⟩, ⟨OA, On, Oc⟩⟩ := S
 unfold askC keyV strV
 simp only
 go_enter Tryz.func52, Tryz.ntmps52
 go_wp2_with fail
 refine bodyPost_ret (v := .agg #[.int .u8 kind, .int .i64 request, .int .i64 qty, .string ⟨item.toArray⟩, .int .i64 day, .int .i64 days, .int .i64 rank, .int .i64 lot, .int .i64 line]) (by simp [results, Tryz.results52, go_sem]) rfl ⟨rfl, ?_⟩
 exact ((Turned.refl (fun _ => False) w).alloc _).alloc _
theorem str_beq (x y : List UInt8) : ((⟨x.toArray⟩ : ByteArray).toList == (⟨y.toArray⟩ : ByteArray).toList) = decide (x = y) := by
 rw [ByteArray.toList_eq, ByteArray.toList_eq]
 by_cases h : x = y
 ·rw [h]; simp
 ·rw [decide_eq_false h]; exact beq_eq_false_iff_ne.2 h
set_option maxRecDepth 100000 in
set_option maxHeartbeats 2000000 in
theorem key_run (a b : AskV) (t : Act) (o : Oper) (i j : Nat) (ho : o.op = Op.binOp BinOp.eql 100 (.tmp i) (.tmp j) 100) (h1 : t.eval (.tmp i) = keyV a) (h2 : t.eval (.tmp j) = keyV b) (w : World) :
  (execOp t.eval o).run Tryz.prog w = .ok (.value (.bool (plainB a b))) w := by
 obtain ⟨kind, request, item, qty, day, days, rank, lot, line, parts, others⟩ := a
 obtain ⟨xk, xr, xi, xq, xd, xl, xa, xt, xn, xp, xo⟩ := b
 unfold keyV at h1 h2
 unfold plainB
 simp only at h1 h2 ⊢
 simp only [execOp, ho, h1, h2]
 have hs := str_beq item xi
 generalize (⟨item.toArray⟩ : ByteArray).toList = u at hs
 by_cases e0 : kind = xk
 ·by_cases e1 : request = xr
  ·by_cases e2 : qty = xq
   ·by_cases e3 : item = xi
    ·by_cases e4 : day = xd
     ·by_cases e5 : days = xl
      ·by_cases e6 : rank = xa
       ·by_cases e7 : lot = xt
        ·by_cases e8 : line = xn
         ·subst e0 e1 e2 e3 e4 e5 e6 e7 e8
          simp
          go_simp
         ·go_simp
        ·go_simp
       ·go_simp
      ·go_simp
     ·go_simp
    ·go_simp
   ·go_simp
  ·go_simp
 ·go_simp
end Go.Proofs.YtglojnmcbochaaaGreatDoor

namespace Go.Proofs.YtglojnmcbochaaaGreatDoor
open Go.RowKit Go.Maps
set_option linter.unusedVariables false
set_option linter.unusedSimpArgs false

/-! plain -/
/-! in memory -/
structure AskOwn (w : World) (B : Nat) (a : AskV) (S : AskS) : Prop where
 parts : OwnE w 62 2 S.P.A S.P.n S.P.c (partC a.parts)
 others : OwnE w 9 1 S.O.A S.O.n S.O.c (textC a.others)
 pB : ∀ g, S.P.A = some ⟨g, 0, none⟩ → B ≤ g
 oB : ∀ g, S.O.A = some ⟨g, 0, none⟩ → B ≤ g
theorem AskOwn.fresh {w w' : World} {B : Nat} {a : AskV} {S : AskS} (h : AskOwn w B a S) (ht : Turned (fun _ => False) w w') : AskOwn w' B a S := ⟨h.parts.fresh ht, h.others.fresh ht, h.pB, h.oB⟩
theorem AskOwn.is {w : World} {B : Nat} {a : AskV} {S : AskS} (h : AskOwn w B a S) : AskIs w a S := ⟨h.parts.slQ, h.others.slT⟩
structure GtW (A : Option Addr) (n c : Nat) (zs : List Int) (w : World) (bok bat bbx br bi bx pos : Nat) (f : List Nat) (x : AskV) (S : AskS) (s : Option (List Int)) (pz : Nat) (W : World) : Prop where
 get : GetW A n c zs w.heap.size bok bat bbx s pz W
 aa : AskAt W bx x S
 own : AskOwn W w.heap.size x S
 res : Blk W br 28 (askC AskV.zero AskS.nil)
 it : W.heap[bi]? = some (.stringIter (fBA f) pos)
 ok : x.Ok
 xb : w.heap.size ≤ bx
 rx : br ≠ bx
 t : Turned (fun _ => False) w W
section
variable {A : Option Addr} {n c : Nat} {zs : List Int} {w : World} {bok bat bbx br bi bx pos : Nat} {f : List Nat} {x : AskV} {S : AskS} {s : Option (List Int)} {pz : Nat} {W W' : World}
theorem blk_it {g k : Nat} {T : TypeId} {cs : Array Value} {b : ByteArray} {p : Nat} (h : Blk W g T cs) (hk : W.heap[k]? = some (.stringIter b p)) : g ≠ k := fun e => by
 subst e
 unfold Blk at h
 rw [h] at hk
 cases hk
theorem own_it {U q : Nat} {A : Option Addr} {n c k : Nat} {xs : List Value} {b : ByteArray} {p : Nat} (h : OwnE W U q A n c xs) (hk : W.heap[k]? = some (.stringIter b p)) : A ≠ some ⟨k, 0, none⟩ := fun e => by
 subst e
 obtain ⟨cs, hb, _⟩ := h.row.row
 exact blk_it hb hk rfl
theorem GtW.turned {V : Nat → Prop} (h : GtW A n c zs w bok bat bbx br bi bx pos f x S s pz W) (ht : Turned V W W') (hV : ∀ i, V i → w.heap.size ≤ i) (g' : GetW A n c zs w.heap.size bok bat bbx s pz W') (h1 : ¬ V bx) (h2 : ¬ V br) (h3 : ¬ V bi) (h4 : ∀ g, S.P.A = some ⟨g, 0, none⟩ → ¬ V g) (h5 : ∀ g, S.O.A = some ⟨g, 0, none⟩ → ¬ V g) :
  GtW A n c zs w bok bat bbx br bi bx pos f x S s pz W' :=
 ⟨g', h.aa.turned ht h1, ⟨h.own.parts.turned ht h4, h.own.others.turned ht h5, h.own.pB, h.own.oB⟩, h.res.turned ht h2, (ht.block bi (heap_lt h.it) h3).trans h.it, h.ok, h.xb, h.rx, h.t.trans ht (fun _ e => e) (fun i e => .inr (hV i e))⟩
theorem GtW.fresh (h : GtW A n c zs w bok bat bbx br bi bx pos f x S s pz W) (ht : Turned (fun _ => False) W W') : GtW A n c zs w bok bat bbx br bi bx pos f x S s pz W' :=
 h.turned ht (fun _ e => e.elim) (h.get.fresh ht) (fun e => e) (fun e => e) (fun e => e) (fun _ _ e => e) (fun _ _ e => e)
theorem GtW.tk {s' : Option (List Int)} {pz' : Nat} (h : GtW A n c zs w bok bat bbx br bi bx pos f x S s pz W) (hg : GetW A n c zs w.heap.size bok bat bbx s' pz' W') (ht : Turned (BoxT bok bat) W W') : GtW A n c zs w bok bat bbx br bi bx pos f x S s' pz' W' := by
 have hok := h.get.ok
 have hat := h.get.at_
 have n1 : ∀ {g : Nat} {T : TypeId} {cs : Array Value}, Blk W g T cs → T ≠ 4 → T ≠ 3 → ¬ BoxT bok bat g := fun hb h1 h2 e => by
  rcases e with e | e
  ·exact Blk.ne_ hb hok h1 e
  ·exact Blk.ne_ hb hat h2 e
 refine ⟨hg, h.aa.turned ht (n1 h.aa (by decide) (by decide)), ⟨h.own.parts.turned ht (fun g e e2 => ?_), h.own.others.turned ht (fun g e e2 => ?_), h.own.pB, h.own.oB⟩, h.res.turned ht (n1 h.res (by decide) (by decide)), (ht.block bi (heap_lt h.it) (fun e => ?_)).trans h.it, h.ok, h.xb, h.rx, h.t.trans ht (fun _ e => e) (fun i e => ?_)⟩
 ·rcases e2 with e2 | e2
  ·exact h.own.parts.blk hok (by decide) e e2
  ·exact h.own.parts.blk hat (by decide) e e2
 ·rcases e2 with e2 | e2
  ·exact h.own.others.blk hok (by decide) e e2
  ·exact h.own.others.blk hat (by decide) e e2
 ·rcases e with e | e
  ·exact blk_it hok h.it e.symm
  ·exact blk_it hat h.it e.symm
 ·have k1 := h.get.b1
  have k2 := h.get.b2
  rcases e with e | e <;> (right; omega)
theorem GtW.iter (h : GtW A n c zs w bok bat bbx br bi bx pos f x S s pz W) (h3 : w.heap.size ≤ bi) : GtW A n c zs w bok bat bbx br bi bx (pos + 1) f x S s pz (W.iterAt bi (fBA f) (pos + 1)) := by
 have tI : Turned (· = bi) W (W.iterAt bi (fBA f) (pos + 1)) := ⟨rfl, rfl, rfl, by simp [World.iterAt], fun i hi hn => by
  simp only [World.iterAt]
  rw [Array.getElem?_setIfInBounds_ne (fun e => hn e.symm)]⟩
 have g' := h.get.turned tI (fun i e => by
  subst e
  exact ⟨fun e => blk_it h.get.ok h.it e.symm, fun e => blk_it h.get.at_ h.it e.symm, fun e => blk_it h.get.bx h.it e.symm, h3⟩)
 exact ⟨g', h.aa.turned tI (blk_it h.aa h.it), ⟨h.own.parts.turned tI (fun g e e2 => own_it h.own.parts h.it (by rw [e, e2])), h.own.others.turned tI (fun g e e2 => own_it h.own.others h.it (by rw [e, e2])), h.own.pB, h.own.oB⟩, h.res.turned tI (blk_it h.res h.it), Lib.iterAt_heap _ _ _ _ _ h.it, h.ok, h.xb, h.rx, h.t.iterAt h3 _ _⟩
theorem GtW.store {x' : AskV} {S' : AskS} (h : GtW A n c zs w bok bat bbx br bi bx pos f x S s pz W) (i : Nat) (v : Value) (hx : (askC x S).setIfInBounds i v = askC x' S') (hp : AskOwn W w.heap.size x' S') (hk : x'.Ok) : GtW A n c zs w bok bat bbx br bi bx pos f x' S' s pz (W.setCell ⟨bx, i, none⟩ v) := by
 have tS : Turned (· = bx) W (W.setCell ⟨bx, i, none⟩ v) := (Turned.refl (· = bx) W).setCell (p := ⟨bx, i, none⟩) (.inl rfl) v
 have hxb := h.xb
 have g' := h.get.turned tS (fun j e => by
  subst e
  exact ⟨Blk.ne_ h.aa h.get.ok (by decide), Blk.ne_ h.aa h.get.at_ (by decide), Blk.ne_ h.aa h.get.bx (by decide), hxb⟩)
 refine ⟨g', by have := Blk.set_ h.aa i v; rw [hx] at this; exact this, ⟨hp.parts.turned tS (fun g e e2 => hp.parts.blk h.aa (by decide) e e2), hp.others.turned tS (fun g e e2 => hp.others.blk h.aa (by decide) e e2), hp.pB, hp.oB⟩, h.res.turned tS h.rx, (tS.block bi (heap_lt h.it) (fun e => blk_it h.aa h.it e.symm)).trans h.it, hk, h.xb, h.rx, h.t.trans tS (fun _ e => e) (fun j e => .inr (by subst e; exact hxb))⟩
theorem GtW.grow {V : Nat → Prop} {x' : AskV} {S' : AskS} (h : GtW A n c zs w bok bat bbx br bi bx pos f x S s pz W) (ht : Turned V W W') (hV : ∀ i, V i → S.P.A = some ⟨i, 0, none⟩ ∨ S.O.A = some ⟨i, 0, none⟩) (i : Nat) (v : Value) (hx : (askC x S).setIfInBounds i v = askC x' S') (hp : AskOwn W' w.heap.size x' S') (hk : x'.Ok) : GtW A n c zs w bok bat bbx br bi bx pos f x' S' s pz (W'.setCell ⟨bx, i, none⟩ v) := by
 have hVb : ∀ {g : Nat} {T : TypeId} {cs : Array Value}, Blk W g T cs → T ≠ 62 → T ≠ 9 → ¬ V g := fun hb h1 h2 e => by
  rcases hV _ e with e | e
  ·exact h.own.parts.blk hb h1 e rfl
  ·exact h.own.others.blk hb h2 e rfl
 have hVB : ∀ i, V i → w.heap.size ≤ i := fun i e => by
  rcases hV i e with e | e
  ·exact h.own.pB i e
  ·exact h.own.oB i e
 have hVi : ¬ V bi := fun e => by
  rcases hV _ e with e | e
  ·exact own_it h.own.parts h.it e
  ·exact own_it h.own.others h.it e
 have g' := h.get.turned ht (fun j e => ⟨fun e2 => hVb h.get.ok (by decide) (by decide) (e2 ▸ e), fun e2 => hVb h.get.at_ (by decide) (by decide) (e2 ▸ e), fun e2 => hVb h.get.bx (by decide) (by decide) (e2 ▸ e), hVB j e⟩)
 have aa' := h.aa.turned ht (hVb h.aa (by decide) (by decide))
 have res' := h.res.turned ht (hVb h.res (by decide) (by decide))
 have it' := (ht.block bi (heap_lt h.it) hVi).trans h.it
 have t' := h.t.trans ht (fun _ e => e) (fun i e => .inr (hVB i e))
 have tS : Turned (· = bx) W' (W'.setCell ⟨bx, i, none⟩ v) := (Turned.refl (· = bx) W').setCell (p := ⟨bx, i, none⟩) (.inl rfl) v
 have hxb := h.xb
 have g2 := g'.turned tS (fun j e => by
  subst e
  exact ⟨Blk.ne_ aa' g'.ok (by decide), Blk.ne_ aa' g'.at_ (by decide), Blk.ne_ aa' g'.bx (by decide), hxb⟩)
 refine ⟨g2, by have := Blk.set_ aa' i v; rw [hx] at this; exact this, ⟨hp.parts.turned tS (fun g e e2 => hp.parts.blk aa' (by decide) e e2), hp.others.turned tS (fun g e e2 => hp.others.blk aa' (by decide) e e2), hp.pB, hp.oB⟩, res'.turned tS h.rx, (tS.block bi (heap_lt it') (fun e => blk_it aa' it' e.symm)).trans it', hk, h.xb, h.rx, t'.trans tS (fun _ e => e) (fun j e => .inr (by subst e; exact hxb))⟩
theorem GtW.pos_ (h : GtW A n c zs w bok bat bbx br bi bx pos f x S s pz W) : W.iterPos bi = pos := by simp [World.iterPos, h.it]
theorem GtW.bytes (h : GtW A n c zs w bok bat bbx br bi bx pos f x S s pz W) (hb : ∀ z ∈ zs, isByte z) : BytesO s := fun ys e y hy => by
 rw [h.get.is_ ys e] at hy
 exact hb y (List.mem_of_mem_drop hy)
end
def GtRel (A : Option Addr) (n c : Nat) (zs : List Int) (w : World) (bok bat bbx br bi bx : Nat) (f : List Nat) (wr : World) : Prop :=
 ∃ (pos : Nat) (x : AskV) (S : AskS) (s : Option (List Int)) (pz : Nat), pos ≤ f.length ∧ GtW A n c zs w bok bat bbx br bi bx pos f x S s pz wr ∧ (f.take pos).foldl decF (startA (some zs)) = (x, s)
theorem GtRel.step {A : Option Addr} {n c : Nat} {zs : List Int} {w : World} {bok bat bbx br bi bx pos k : Nat} {f : List Nat} {x x' : AskV} {S' : AskS} {s s' : Option (List Int)} {pz' : Nat} {W : World} (hp : pos < f.length) (ht : f.take (pos + 1) = f.take pos ++ [k]) (hx : (f.take pos).foldl decF (startA (some zs)) = (x, s)) (hd : decF (x, s) k = (x', s'))
  (h : GtW A n c zs w bok bat bbx br bi bx (pos + 1) f x' S' s' pz' W) : GtRel A n c zs w bok bat bbx br bi bx f W ∧ W.iterPos bi = pos + 1 :=
 ⟨⟨pos + 1, x', S', s', pz', hp, h, by rw [ht, List.foldl_append, hx]; exact hd⟩, h.pos_⟩
end Go.Proofs.YtglojnmcbochaaaGreatDoor

namespace Go.Proofs.YtglojnmcbochaaaGreatDoor
open Go.RowKit Go.Maps
set_option linter.unusedVariables false
set_option linter.unusedSimpArgs false

structure FldW (w0 : World) (B g bx : Nat) (x : AskV) (S : AskS) (ws : WS) (bad : Bool) (W : World) : Prop where
 base : Base w0 W g
 rd : RdB W B g ws bad
 aa : AskAt W bx x S
 own : AskOwn W B x S
 bB : B ≤ bx
 ok : x.Ok
 pN : x.parts.length + ws.length ≤ 1000000
 oN : x.others.length + ws.length ≤ 1000000
 bz : B ≤ W.heap.size
def FldV (g bx : Nat) (S : AskS) (i : Nat) : Prop := i = g ∨ i = bx ∨ S.P.A = some ⟨i, 0, none⟩ ∨ S.O.A = some ⟨i, 0, none⟩
def FldM (S S' : AskS) (W : World) : Prop := (∀ i, S'.P.A = some ⟨i, 0, none⟩ → S.P.A = some ⟨i, 0, none⟩ ∨ W.heap.size ≤ i) ∧ ∀ i, S'.O.A = some ⟨i, 0, none⟩ → S.O.A = some ⟨i, 0, none⟩ ∨ W.heap.size ≤ i
theorem FldM.refl (S : AskS) (W : World) : FldM S S W := ⟨fun _ h => .inl h, fun _ h => .inl h⟩
theorem FldM.trans {S S' S2 : AskS} {W W' : World} (h : FldM S S' W) (k : FldM S' S2 W') (hz : W.heap.size ≤ W'.heap.size) : FldM S S2 W :=
 ⟨fun i e => by
  rcases k.1 i e with e | e
  ·exact h.1 i e
  ·exact .inr (by omega), fun i e => by
  rcases k.2 i e with e | e
  ·exact h.2 i e
  ·exact .inr (by omega)⟩
theorem FldM.v {S S' : AskS} {W : World} {g bx i : Nat} (h : FldM S S' W) (hv : FldV g bx S' i) : FldV g bx S i ∨ W.heap.size ≤ i := by
 rcases hv with e | e | e | e
 ·exact .inl (.inl e)
 ·exact .inl (.inr (.inl e))
 ·rcases h.1 i e with e | e
  ·exact .inl (.inr (.inr (.inl e)))
  ·exact .inr e
 ·rcases h.2 i e with e | e
  ·exact .inl (.inr (.inr (.inr e)))
  ·exact .inr e
section
variable {w0 W W' : World} {B g bx : Nat} {x x' : AskV} {S S' : AskS} {ws ws' : WS} {bad bad' : Bool}
theorem FldW.gx (h : FldW w0 B g bx x S ws bad W) : g ≠ bx := by
 have := h.rd.gB
 have := h.bB
 omega
theorem FldW.tk (h : FldW w0 B g bx x S ws bad W) (r : RdB W' B g ws' bad') (ht : Turned (· = g) W W') (hl : ws'.length ≤ ws.length) : FldW w0 B g bx x S ws' bad' W' := by
 have hg := h.rd.gB
 refine ⟨h.base.next ht, r, h.aa.turned ht h.gx.symm, ⟨h.own.parts.turned ht (fun i e k => ?_), h.own.others.turned ht (fun i e k => ?_), h.own.pB, h.own.oB⟩, h.bB, h.ok, by have := h.pN; omega, by have := h.oN; omega, Nat.le_trans h.bz ht.size⟩
 ·have := h.own.pB i e; omega
 ·have := h.own.oB i e; omega
theorem FldW.fresh (h : FldW w0 B g bx x S ws bad W) (ht : Turned (fun _ => False) W W') : FldW w0 B g bx x S ws bad W' := h.tk (h.rd.fresh ht) (turned_same ht) (Nat.le_refl _)
theorem FldW.store (h : FldW w0 B g bx x S ws bad W) (i : Nat) (v : Value) (hx : (askC x S).setIfInBounds i v = askC x' S') (hp : AskOwn W B x' S') (hk : x'.Ok) (hpN : x'.parts.length + ws.length ≤ 1000000) (hoN : x'.others.length + ws.length ≤ 1000000) : FldW w0 B g bx x' S' ws bad (W.setCell ⟨bx, i, none⟩ v) := by
 have tS : Turned (· = bx) W (W.setCell ⟨bx, i, none⟩ v) := turned_one _ _ _ _
 have hB := h.bB
 refine ⟨⟨h.base.vars, h.base.t.trans tS (fun _ e => e) (fun j e => .inr (by subst e; have := h.rd.gB; have := h.base.g; omega)), h.base.g⟩, h.rd.turned tS (fun j e => e ▸ hB), by have := Blk.set_ h.aa i v; rw [hx] at this; exact this,
  ⟨hp.parts.turned tS (fun j e e2 => hp.parts.blk h.aa (by decide) e e2), hp.others.turned tS (fun j e e2 => hp.others.blk h.aa (by decide) e e2), hp.pB, hp.oB⟩, h.bB, hk, hpN, hoN, Nat.le_trans h.bz tS.size⟩
theorem FldW.grow {V : Nat → Prop} (h : FldW w0 B g bx x S ws bad W) (ht : Turned V W W') (hV : ∀ i, V i → S.P.A = some ⟨i, 0, none⟩ ∨ S.O.A = some ⟨i, 0, none⟩) (i : Nat) (v : Value) (hx : (askC x S).setIfInBounds i v = askC x' S') (hp : AskOwn W' B x' S') (hk : x'.Ok) (hpN : x'.parts.length + ws.length ≤ 1000000) (hoN : x'.others.length + ws.length ≤ 1000000) : FldW w0 B g bx x' S' ws bad (W'.setCell ⟨bx, i, none⟩ v) := by
 have hVB : ∀ i, V i → B ≤ i := fun i e => by
  rcases hV i e with e | e
  ·exact h.own.pB i e
  ·exact h.own.oB i e
 have hVx : ¬ V bx := fun e => by
  rcases hV _ e with e | e
  ·exact h.own.parts.blk h.aa (by decide) e rfl
  ·exact h.own.others.blk h.aa (by decide) e rfl
 have hB := h.bB
 have aa' := h.aa.turned ht hVx
 have tS : Turned (· = bx) W' (W'.setCell ⟨bx, i, none⟩ v) := turned_one _ _ _ _
 have b0 : w0.heap.size ≤ B := by have := h.rd.gB; have := h.base.g; omega
 refine ⟨⟨h.base.vars, (h.base.t.trans ht (fun _ e => e) (fun j e => .inr (Nat.le_trans b0 (hVB j e)))).trans tS (fun _ e => e) (fun j e => .inr (by subst e; omega)), h.base.g⟩, (h.rd.turned ht hVB).turned tS (fun j e => e ▸ hB), by have := Blk.set_ aa' i v; rw [hx] at this; exact this,
  ⟨hp.parts.turned tS (fun j e e2 => hp.parts.blk aa' (by decide) e e2), hp.others.turned tS (fun j e e2 => hp.others.blk aa' (by decide) e e2), hp.pB, hp.oB⟩, h.bB, hk, hpN, hoN, Nat.le_trans h.bz (Nat.le_trans ht.size tS.size)⟩
end
def FldPost (w0 : World) (B g bx : Nat) (x : AskV) (S : AskS) (ws : WS) (bad : Bool) (c : Nat) (W : World) (e : Ending) (W' : World) : Prop :=
 e = .returned (.tuple #[]) ∧ ∃ S', FldW w0 B g bx (fieldP (x, ws, bad) c).1 S' (fieldP (x, ws, bad) c).2.1 (fieldP (x, ws, bad) c).2.2 W' ∧ Turned (FldV g bx S) W W' ∧ FldM S S' W
theorem FldPost.of {w0 : World} {B g bx c : Nat} {x x' : AskV} {S S' : AskS} {ws ws' : WS} {bad bad' : Bool} {W W' : World} (hf : fieldP (x, ws, bad) c = (x', ws', bad')) (h : FldW w0 B g bx x' S' ws' bad' W') (ht : Turned (FldV g bx S) W W') (hm : FldM S S' W) : ∃ S', FldW w0 B g bx (fieldP (x, ws, bad) c).1 S' (fieldP (x, ws, bad) c).2.1 (fieldP (x, ws, bad) c).2.2 W' ∧ Turned (FldV g bx S) W W' ∧ FldM S S' W := by
 rw [hf]
 exact ⟨S', h, ht, hm⟩
theorem turned_gx {W W2 : World} {g bx : Nat} (S : AskS) (h : Turned (· = g) W W2) (i : Nat) (v : Value) : Turned (FldV g bx S) W (W2.setCell ⟨bx, i, none⟩ v) :=
 (h.mono (fun j e => .inl (.inl e))).setCell (p := ⟨bx, i, none⟩) (.inl (.inr (.inl rfl))) v
theorem numV_64 (ws : WS) : I64 (numV ws) := numL_64 _
theorem headD_ok {w : World} {B g : Nat} {ws : WS} {bad : Bool} (h : RdB w B g ws bad) : strOk (ws.headD []) := by
 have := h.head
 unfold lenOk at this
 unfold strOk
 omega
theorem tail_le (ws : WS) : ws.tail.length ≤ ws.length := by rw [List.length_tail]; omega
end Go.Proofs.YtglojnmcbochaaaGreatDoor

