/-
  ytglojnmcbochaaagreatdoor: laws and walks on the road to LinesSteps, joined: AskE RfQh. Conditions stand at each theorem.
-/
import Derived.Test.YtglojnmcbochaaaGreatDoorSAskEi
import Derived.Test.YtglojnmcbochaaaGreatDoorSAskEj
import Derived.Test.YtglojnmcbochaaaGreatDoorSAskEk
import Derived.Test.YtglojnmcbochaaaGreatDoorSAskEl
import Derived.Test.YtglojnmcbochaaaGreatDoorSAskN
import Derived.StillTailTactics
import Derived.Deep.CutRange
import Derived.Test.YtglojnmcbochaaaGreatDoorSRfK
import Derived.Test.YtglojnmcbochaaaGreatDoorSRfW
import Derived.Test.YtglojnmcbochaaaGreatDoorSRdSh
import Derived.Test.YtglojnmcbochaaaGreatDoorSAskS
namespace Go.Proofs.YtglojnmcbochaaaGreatDoor
open Go.RowKit Go.Maps
set_option linter.unusedVariables false
set_option linter.unusedSimpArgs false

set_option maxRecDepth 100000 in
set_option maxHeartbeats 4000000 in
theorem rright13_any (a : AskV) (S : AskS) (w : World) (hI : AskIs w a S) (hOk : a.Ok) : Calls Tryz.prog 79 #[.agg (askC a S)] w (RetNew (.bool (rightA a)) w) := by
  cases hf : fieldsK a.kind with
  | none =>
    have e' := Lib.hid (show rightA a = false from by unfold rightA; rw [hf])
    have hF := Lib.hid (fun (w' : World) => rfields_any a.kind w' hOk.kind)
    rw [fields_none hf] at hF
    obtain ⟨kind, request, item, qty, day, days, rank, lot, line, parts, others⟩ := a
    obtain ⟨⟨PA, Pn, Pc⟩, ⟨OA, On, Oc⟩⟩ := S
    clear hI hOk hf
    unfold askC strV
    simp only at hF ⊢
    go_enter Tryz.func79, Tryz.ntmps79
    go_wp2_with fail
    refine (hF.out _).mono ?_
    rintro e w9 ⟨rfl, rfl⟩
    go_wp2_with fail
    go_ret
    exact ⟨ret_bool e'.out.symm, (Turned.refl (fun _ => False) w).alloc _⟩
  | some f =>
    have hk := fieldsK_kinds hf
    unfold kindsL at hk
    simp only [List.mem_cons, List.not_mem_nil, or_false] at hk
    rcases hk with rfl | rfl | rfl | rfl | rfl | rfl | rfl | rfl | rfl | rfl | rfl
    · exact rright_0 a S w hI hOk hf
    · exact rright_1 a S w hI hOk hf
    · exact rright_2 a S w hI hOk hf
    · exact rright_3 a S w hI hOk hf
    · exact rright_4 a S w hI hOk hf
    · exact rright_5 a S w hI hOk hf
    · exact rright_6 a S w hI hOk hf
    · exact rright_7 a S w hI hOk hf
    · exact rright_8 a S w hI hOk hf
    · exact rright_9 a S w hI hOk hf
    · exact rright_10 a S w hI hOk hf
end Go.Proofs.YtglojnmcbochaaaGreatDoor

namespace Go.Proofs.YtglojnmcbochaaaGreatDoor
open Go.RowKit Go.Maps
set_option linter.unusedVariables false
set_option linter.unusedSimpArgs false

/-- What the loop keeps: the words that are left, the command, its lists. -/
structure RqW (w : World) (br bx : Nat) (x : AskV) (S : AskS) (s : Sl) (ws : WS) (W : World) : Prop where
  sl : SlT W s ws
  mem : ∀ y ∈ ws, lenOk y
  old : ∀ b o, s.A = some ⟨b, o, none⟩ → b < w.heap.size
  aa : AskAt W bx x S
  own : AskOwn W w.heap.size x S
  ok : x.Ok
  res : Blk W br 28 #[.int .u8 0, .int .i64 0, .string ⟨#[]⟩, .int .i64 0, .int .i64 0, .int .i64 0, .int .i64 0, .int .i64 0, .int .i64 0, .slice none 0 0, .slice none 0 0]
  t : Turned (fun _ => False) w W
  pN : x.parts.length + ws.length ≤ 1000000
  oN : x.others.length + ws.length ≤ 1000000
  b1 : w.heap.size ≤ br
  b2 : br < bx
section
variable {w W W' : World} {br bx : Nat} {x x' : AskV} {S S' : AskS} {s s' : Sl} {ws ws' : WS}
theorem RqW.fresh (h : RqW w br bx x S s ws W) (ht : Turned (fun _ => False) W W') : RqW w br bx x S s ws W' :=
  ⟨h.sl.fresh ht, h.mem, h.old, h.aa.fresh ht, h.own.fresh ht, h.ok, h.res.turned ht (fun e => e), h.t.and_ ht, h.pN, h.oN, h.b1, h.b2⟩
theorem RqW.store (h : RqW w br bx x S s ws W) (i : Nat) (v : Value) (hx : (askC x S).setIfInBounds i v = askC x' S') (hp : AskOwn W w.heap.size x' S') (hk : x'.Ok) (hpN : x'.parts.length + ws.length ≤ 1000000) (hoN : x'.others.length + ws.length ≤ 1000000) : RqW w br bx x' S' s ws (W.setCell ⟨bx, i, none⟩ v) := by
  have tS : Turned (· = bx) W (W.setCell ⟨bx, i, none⟩ v) := turned_one _ _ _ _
  have g1 := h.b1
  have g2 := h.b2
  exact ⟨h.sl.turned tS (fun b o e k => by have := h.old b o e; omega), h.mem, h.old, by have := Blk.set_ h.aa i v; rw [hx] at this; exact this,
    ⟨hp.parts.turned tS (fun j e e2 => hp.parts.blk h.aa (by decide) e e2), hp.others.turned tS (fun j e e2 => hp.others.blk h.aa (by decide) e e2), hp.pB, hp.oB⟩, hk, h.res.turned tS (by omega), h.t.trans tS (fun _ e => e) (fun j e => .inr (by subst e; omega)), hpN, hoN, h.b1, h.b2⟩
theorem RqW.grow {V : Nat → Prop} (h : RqW w br bx x S s ws W) (ht : Turned V W W') (hV : ∀ i, V i → S.P.A = some ⟨i, 0, none⟩ ∨ S.O.A = some ⟨i, 0, none⟩) (i : Nat) (v : Value) (hx : (askC x S).setIfInBounds i v = askC x' S') (hp : AskOwn W' w.heap.size x' S') (hk : x'.Ok) (hpN : x'.parts.length + ws.length ≤ 1000000) (hoN : x'.others.length + ws.length ≤ 1000000) : RqW w br bx x' S' s ws (W'.setCell ⟨bx, i, none⟩ v) := by
  have g1 := h.b1
  have g2 := h.b2
  have hVB : ∀ i, V i → w.heap.size ≤ i := fun i e => by
    rcases hV i e with e | e
    · exact h.own.pB i e
    · exact h.own.oB i e
  have hVb : ∀ {g : Nat} {cs : Array Value}, Blk W g 28 cs → ¬ V g := fun hb e => by
    rcases hV _ e with e | e
    · exact h.own.parts.blk hb (by decide) e rfl
    · exact h.own.others.blk hb (by decide) e rfl
  have aa' := h.aa.turned ht (hVb h.aa)
  have tS : Turned (· = bx) W' (W'.setCell ⟨bx, i, none⟩ v) := turned_one _ _ _ _
  exact ⟨(h.sl.turned ht (fun b o e k => by have := h.old b o e; have := hVB b k; omega)).turned tS (fun b o e k => by have := h.old b o e; omega), h.mem, h.old, by have := Blk.set_ aa' i v; rw [hx] at this; exact this,
    ⟨hp.parts.turned tS (fun j e e2 => hp.parts.blk aa' (by decide) e e2), hp.others.turned tS (fun j e e2 => hp.others.blk aa' (by decide) e e2), hp.pB, hp.oB⟩, hk, (h.res.turned ht (hVb h.res)).turned tS (by omega), (h.t.trans ht (fun _ e => e) (fun j e => .inr (hVB j e))).trans tS (fun _ e => e) (fun j e => .inr (by subst e; omega)), hpN, hoN, h.b1, h.b2⟩
/-- Fewer words are left. -/
theorem RqW.cut (h : RqW w br bx x S s ws W) (k : Nat) (hs : SlT W s' (ws.drop k)) (ho : ∀ b o, s'.A = some ⟨b, o, none⟩ → b < w.heap.size) : RqW w br bx x S s' (ws.drop k) W :=
  ⟨hs, fun y hy => h.mem y (List.mem_of_mem_drop hy), ho, h.aa, h.own, h.ok, h.res, h.t, by have := h.pN; rw [List.length_drop]; omega, by have := h.oN; rw [List.length_drop]; omega, h.b1, h.b2⟩
end
/-- A slice of texts behind its first k ones. -/
theorem SlT.dropK {w : World} {b off n c : Nat} {ws : WS} (h : SlT w ⟨some ⟨b, off, none⟩, n, c⟩ ws) (k : Nat) (hk : k ≤ n) : SlT w ⟨some ⟨b, off + k, none⟩, n - k, c - k⟩ (ws.drop k) := by
  have hl := h.len
  have hle := h.le
  have hm := h.max
  simp only at hl hle hm
  refine ⟨⟨by rw [textC_length, List.length_drop]; simp only; omega, fun h0 => ?_⟩, by rw [List.length_drop]; simp only; omega, (fun e => by cases e), by simp only; omega, by simp only; omega⟩
  obtain ⟨b2, off2, e, hc⟩ := h.cel.cell (by simp only at h0 ⊢; omega)
  simp only at e
  injection e with e
  injection e with e1 e2
  subst e1 e2
  refine ⟨b, off + k, rfl, fun j hj => ?_⟩
  simp only at hj
  rw [Nat.add_assoc, hc (k + j) (by simp only; omega)]
  unfold textC
  rw [List.getElem?_map, List.getElem?_map, List.getElem?_drop]
theorem SlT.dropAll {w : World} {b off n c : Nat} {ws : WS} (h : SlT w ⟨some ⟨b, off, none⟩, n, c⟩ ws) (k : Nat) (hk : k ≤ n) (hc : c = k) : SlT w ⟨some ⟨b, off, none⟩, n - k, 0⟩ (ws.drop k) := by
  have hl := h.len
  have hle := h.le
  simp only at hl hle
  have hn : n - k = 0 := by omega
  have hd : ws.drop k = [] := List.drop_of_length_le (by omega)
  rw [hd, hn]
  exact ⟨⟨rfl, fun h0 => absurd h0 (by simp)⟩, rfl, (fun e => by cases e), Nat.le_refl _, Nat.zero_le _⟩
def RqPost (ws : WS) (w : World) (e : Ending) (w' : World) : Prop :=
  ∃ x S b, e = .returned (.tuple #[.agg (askC x S), .bool b]) ∧ AskOwn w' w.heap.size x S ∧ x.Ok ∧ askW ws = (if b then some x else none) ∧ Turned (fun _ => False) w w'
/-- The loop over the fields: how far it is. -/
def RqRel (Bad : Prop) (w : World) (br bx : Nat) (f : List Nat) (x0 : AskV) (ws0 : WS) (l ok i : Value) (wr : World) : Prop :=
  ∃ (pos : Nat) (x : AskV) (S : AskS) (s : Sl) (ws : WS) (b : Bool), pos ≤ f.length ∧ i = .int .i64 pos ∧ l = .slice s.A s.n s.c ∧ ok = .bool b ∧ RqW w br bx x S s ws wr ∧
    (b = true ∧ (f.take pos).foldl optF (some (x0, ws0)) = some (x, ws) ∨ Bad ∧ (b = false ∨ ws ≠ [] ∧ pos = f.length))
theorem fold_none {f : List Nat} {pos : Nat} {s : Option (AskV × WS)} {x : AskV} {ws : WS} {c : Nat} (hc : f.take (pos + 1) = f.take pos ++ [c]) (h : (f.take pos).foldl optF s = some (x, ws)) (hn : takeF (x, ws) c = none) : f.foldl optF s = none := by
  conv => lhs; rw [← List.take_append_drop (pos + 1) f]
  rw [List.foldl_append, hc, List.foldl_append, h]
  show (f.drop (pos + 1)).foldl optF (takeF (x, ws) c) = none
  rw [hn]
  exact optF_none _
theorem fold_some {f : List Nat} {pos : Nat} {s : Option (AskV × WS)} {x y : AskV} {ws vs : WS} {c : Nat} (hc : f.take (pos + 1) = f.take pos ++ [c]) (h : (f.take pos).foldl optF s = some (x, ws)) (hn : takeF (x, ws) c = some (y, vs)) : (f.take (pos + 1)).foldl optF s = some (y, vs) := by
  rw [hc, List.foldl_append, h]
  exact hn
theorem fold_last {f : List Nat} {pos : Nat} (h : f ∈ kindsL) {c : Nat} (hc : f.take (pos + 1) = f.take pos ++ [c]) (hp : pos < f.length) (hl : c = 112 ∨ c = 111) : pos + 1 = f.length := by
  have e : f = f.take pos ++ c :: f.drop (pos + 1) := by
    conv => lhs; rw [← List.take_append_drop (pos + 1) f]
    rw [hc, List.append_assoc]
    rfl
  have := kinds_last h _ _ _ e hl
  have h2 := congrArg List.length this
  rw [List.length_drop, List.length_nil] at h2
  omega
theorem num_take_some {y : List UInt8} {t : WS} (h : (numL y).isSome = true) (g : Int → AskV) : ((num1 (y :: t)).map fun r => (g r.1, r.2)) = some (g ((numL y).getD 0), t) := by
  show (num1C y t).map _ = _
  unfold num1C
  cases hn : numL y with
  | none => rw [hn] at h; cases h
  | some m => rfl
theorem num_take_none {y : List UInt8} {t : WS} (h : (numL y).isSome = false) (g : Int → AskV) : ((num1 (y :: t)).map fun r => (g r.1, r.2)) = none := by
  show (num1C y t).map _ = _
  unfold num1C
  cases hn : numL y with
  | none => rfl
  | some m => rw [hn] at h; cases h
def PRel2 (w : World) (br bx : Nat) (x : AskV) (ws : WS) (l ok : Value) (wr : World) : Prop :=
  ∃ (ps : List (List UInt8 × Int)) (S6 : AskS) (s6 : Sl) (ws6 : WS) (b6 : Bool), l = .slice s6.A s6.n s6.c ∧ ok = .bool b6 ∧ RqW w br bx { x with parts := x.parts ++ ps } S6 s6 ws6 wr ∧ (b6 = true ∧ partsW ws = (match partsW ws6 with
    | none => none
    | some r => some (ps ++ r)) ∨ b6 = false ∧ partsW ws = none)
def sliceLen : Value → Nat
  | .slice _ n _ => n
  | _ => 0
theorem partsW_two (y v : List UInt8) (t : WS) : (∀ n, numL v = some n → partsW (y :: v :: t) = (match partsW t with
    | none => none
    | some l => some ((y, n) :: l))) ∧ (numL v = none → partsW (y :: v :: t) = none) := by
  refine ⟨fun n h => ?_, fun h => ?_⟩
  · conv => lhs; unfold partsW
    rw [h]
    rfl
  · conv => lhs; unfold partsW
    rw [h]
theorem parts_step {ws : WS} {ps : List (List UInt8 × Int)} {y v : List UInt8} {t : WS} (h : partsW ws = (match partsW (y :: v :: t) with
    | none => none
    | some r => some (ps ++ r))) : ((numL v).isSome = true ∧ partsW ws = (match partsW t with
    | none => none
    | some r => some ((ps ++ [(y, (numL v).getD 0)]) ++ r))) ∨ ((numL v).isSome = false ∧ partsW ws = none) := by
  cases hn : numL v with
  | none =>
    right
    rw [(partsW_two y v t).2 hn] at h
    exact ⟨rfl, h⟩
  | some n =>
    left
    rw [(partsW_two y v t).1 n hn] at h
    refine ⟨rfl, ?_⟩
    rw [h]
    cases partsW t with
    | none => rfl
    | some r =>
      show some (ps ++ ((y, n) :: r)) = some ((ps ++ [(y, n)]) ++ r)
      rw [List.append_assoc]
      rfl
end Go.Proofs.YtglojnmcbochaaaGreatDoor

