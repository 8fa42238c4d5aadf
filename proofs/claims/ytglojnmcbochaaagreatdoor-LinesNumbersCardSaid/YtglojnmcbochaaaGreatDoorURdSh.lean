/-
 The program's reader takes a step. Conditions: the library's variables, ask.kinds and lines.verbs hold what their initialisers lay; at most 1000000 words.
-/
import Derived.Test.YtglojnmcbochaaaGreatDoorURdK
namespace Go.Proofs.YtglojnmcbochaaaGreatDoor
open Go.RowKit Go.Maps
set_option linter.unusedVariables false
set_option linter.unusedSimpArgs false

def fateC (l : List Int) : List Value := l.map fun n => .int .i64 n
theorem fateC_length (l : List Int) : (fateC l).length = l.length := by simp [fateC]
theorem fateC_append (a b : List Int) : fateC (a ++ b) = fateC a ++ fateC b := by simp [fateC]
theorem fateT : EltT Tryz.prog 29 53 1 8 (.agg #[.int .i64 0]) := ⟨Tryz.underlying29, by kernel_rfl, rfl, by omega⟩
def stpC (x : StepV) (S : AskS) (Fs : Sl) : Array Value :=
 #[.int .u8 x.kind, .int .i64 x.session, .int .i64 x.num, .int .u8 x.ask.kind, .int .i64 x.ask.request, strV x.ask.item, .int .i64 x.ask.qty, .int .i64 x.ask.day, .int .i64 x.ask.days, .int .i64 x.ask.rank, .int .i64 x.ask.lot, .int .i64 x.ask.line, .slice S.P.A S.P.n S.P.c, .slice S.O.A S.O.n S.O.c, .slice Fs.A Fs.n Fs.c]
structure SlF (w : World) (s : Sl) (l : List Int) : Prop where
 cel : CelR w s.A s.n (fateC l)
 len : l.length = s.n
 nil_ : s.A = none → s.n = 0 ∧ s.c = 0
 le : s.n ≤ s.c
 max : s.c ≤ maxLen
theorem SlF.turned {w w' : World} {W : Nat → Prop} {s : Sl} {l : List Int} (h : SlF w s l) (ht : Turned W w w') (hW : ∀ b o, s.A = some ⟨b, o, none⟩ → ¬ W b) : SlF w' s l := ⟨h.cel.turned ht hW, h.len, h.nil_, h.le, h.max⟩
theorem SlF.fresh {w w' : World} {s : Sl} {l : List Int} (h : SlF w s l) (ht : Turned (fun _ => False) w w') : SlF w' s l := h.turned ht (fun _ _ _ e => e)
theorem SlF.none_ (w : World) : SlF w Sl.nil [] := ⟨CelR.none_ w, rfl, fun _ => ⟨rfl, rfl⟩, Nat.le_refl _, Nat.zero_le _⟩
structure StpOwn (w : World) (B : Nat) (x : StepV) (S : AskS) (Fs : Sl) : Prop where
 ask : AskOwn w B x.ask S
 fates : OwnE w 53 1 Fs.A Fs.n Fs.c (fateC x.fates)
 fB : ∀ g, Fs.A = some ⟨g, 0, none⟩ → B ≤ g
structure StepV.Ok (x : StepV) : Prop where
 kind : isByte x.kind
 session : I64 x.session
 num : I64 x.num
 ask : x.ask.Ok
 fates : ∀ n ∈ x.fates, I64 n
theorem StpOwn.fresh {w w' : World} {B : Nat} {x : StepV} {S : AskS} {Fs : Sl} (h : StpOwn w B x S Fs) (ht : Turned (fun _ => False) w w') : StpOwn w' B x S Fs := ⟨h.ask.fresh ht, h.fates.fresh ht, h.fB⟩
theorem StpOwn.low {w w' : World} {W : Nat → Prop} {B : Nat} {x : StepV} {S : AskS} {Fs : Sl} (h : StpOwn w B x S Fs) (ht : Turned W w w') (hW : ∀ i, W i → i < B) : StpOwn w' B x S Fs :=
 ⟨⟨h.ask.parts.turned ht (fun i e k => by have := h.ask.pB i e; have := hW i k; omega), h.ask.others.turned ht (fun i e k => by have := h.ask.oB i e; have := hW i k; omega), h.ask.pB, h.ask.oB⟩, h.fates.turned ht (fun i e k => by have := h.fB i e; have := hW i k; omega), h.fB⟩
theorem StpOwn.blk {w w' : World} {W : Nat → Prop} {B b : Nat} {cs : Array Value} {x : StepV} {S : AskS} {Fs : Sl} (h : StpOwn w B x S Fs) (hb : Blk w b 31 cs) (ht : Turned W w w') (hW : ∀ i, W i → i = b) : StpOwn w' B x S Fs :=
 ⟨h.ask.moved ht hW hb (by decide) (by decide), h.fates.turned ht (fun i e k => h.fates.blk hb (by decide) e (hW i k)), h.fB⟩
theorem AskOwn.nil (w : World) (B : Nat) (a : AskV) (h1 : a.parts = []) (h2 : a.others = []) : AskOwn w B a AskS.nil := ⟨by rw [h1]; exact OwnE.nil _ _ _, by rw [h2]; exact OwnE.nil _ _ _, (fun g e => by cases e), (fun g e => by cases e)⟩
theorem StpOwn.nil (w : World) (B : Nat) (x : StepV) (h0 : x.fates = []) (h1 : x.ask.parts = []) (h2 : x.ask.others = []) : StpOwn w B x AskS.nil Sl.nil := ⟨AskOwn.nil w B _ h1 h2, by rw [h0]; exact OwnE.nil _ _ _, (fun g e => by cases e)⟩
theorem I64_zero : I64 0 := by unfold I64; decide
theorem fin15 {w : World} {g : Nat} {T : TypeId} {a0 a1 a2 a3 a4 a5 a6 a7 a8 a9 a10 a11 a12 a13 a14 : Value} (v0 v1 v2 v3 v4 v5 v6 v7 v8 v9 v10 v11 v12 v13 v14 : Value) (h : Blk w g T #[a0, a1, a2, a3, a4, a5, a6, a7, a8, a9, a10, a11, a12, a13, a14]) :
  ∃ wz, ((((((((((((((w.setCell ⟨g, 0, none⟩ v0).setCell ⟨g, 1, none⟩ v1).setCell ⟨g, 2, none⟩ v2).setCell ⟨g, 3, none⟩ v3).setCell ⟨g, 4, none⟩ v4).setCell ⟨g, 5, none⟩ v5).setCell ⟨g, 6, none⟩ v6).setCell ⟨g, 7, none⟩ v7).setCell ⟨g, 8, none⟩ v8).setCell ⟨g, 9, none⟩ v9).setCell ⟨g, 10, none⟩ v10).setCell ⟨g, 11, none⟩ v11).setCell ⟨g, 12, none⟩ v12).setCell ⟨g, 13, none⟩ v13).setCell ⟨g, 14, none⟩ v14 = wz ∧ Blk wz g T #[v0, v1, v2, v3, v4, v5, v6, v7, v8, v9, v10, v11, v12, v13, v14] ∧ Turned (fun i => i = g) w wz :=
 ⟨_, rfl, by
  have h1 := (((((((((((((((h.set_ 0 v0).set_ 1 v1).set_ 2 v2).set_ 3 v3).set_ 4 v4).set_ 5 v5).set_ 6 v6).set_ 7 v7).set_ 8 v8).set_ 9 v9).set_ 10 v10).set_ 11 v11).set_ 12 v12).set_ 13 v13).set_ 14 v14)
  simp only [zA, zB, zC] at h1
  exact h1, ((((((((((((((((Turned.refl (fun i => i = g) w).setCell (p := ⟨g, 0, none⟩) (.inl rfl) v0).setCell (p := ⟨g, 1, none⟩) (.inl rfl) v1).setCell (p := ⟨g, 2, none⟩) (.inl rfl) v2).setCell (p := ⟨g, 3, none⟩) (.inl rfl) v3).setCell (p := ⟨g, 4, none⟩) (.inl rfl) v4).setCell (p := ⟨g, 5, none⟩) (.inl rfl) v5).setCell (p := ⟨g, 6, none⟩) (.inl rfl) v6).setCell (p := ⟨g, 7, none⟩) (.inl rfl) v7).setCell (p := ⟨g, 8, none⟩) (.inl rfl) v8).setCell (p := ⟨g, 9, none⟩) (.inl rfl) v9).setCell (p := ⟨g, 10, none⟩) (.inl rfl) v10).setCell (p := ⟨g, 11, none⟩) (.inl rfl) v11).setCell (p := ⟨g, 12, none⟩) (.inl rfl) v12).setCell (p := ⟨g, 13, none⟩) (.inl rfl) v13).setCell (p := ⟨g, 14, none⟩) (.inl rfl) v14)⟩
theorem fin11at {w : World} {g : Nat} {T : TypeId} {a0 a1 a2 a3 a4 a5 a6 a7 a8 a9 a10 a11 a12 a13 a14 : Value} (v3 v4 v5 v6 v7 v8 v9 v10 v11 v12 v13 : Value) (h : Blk w g T #[a0, a1, a2, a3, a4, a5, a6, a7, a8, a9, a10, a11, a12, a13, a14]) :
  ∃ wz, ((((((((((w.setCell ⟨g, 3, none⟩ v3).setCell ⟨g, 4, none⟩ v4).setCell ⟨g, 5, none⟩ v5).setCell ⟨g, 6, none⟩ v6).setCell ⟨g, 7, none⟩ v7).setCell ⟨g, 8, none⟩ v8).setCell ⟨g, 9, none⟩ v9).setCell ⟨g, 10, none⟩ v10).setCell ⟨g, 11, none⟩ v11).setCell ⟨g, 12, none⟩ v12).setCell ⟨g, 13, none⟩ v13 = wz ∧ Blk wz g T #[a0, a1, a2, v3, v4, v5, v6, v7, v8, v9, v10, v11, v12, v13, a14] ∧ Turned (fun i => i = g) w wz :=
 ⟨_, rfl, by
  have h1 := (((((((((((h.set_ 3 v3).set_ 4 v4).set_ 5 v5).set_ 6 v6).set_ 7 v7).set_ 8 v8).set_ 9 v9).set_ 10 v10).set_ 11 v11).set_ 12 v12).set_ 13 v13)
  simp only [zA, zB, zC] at h1
  exact h1, ((((((((((((Turned.refl (fun i => i = g) w).setCell (p := ⟨g, 3, none⟩) (.inl rfl) v3).setCell (p := ⟨g, 4, none⟩) (.inl rfl) v4).setCell (p := ⟨g, 5, none⟩) (.inl rfl) v5).setCell (p := ⟨g, 6, none⟩) (.inl rfl) v6).setCell (p := ⟨g, 7, none⟩) (.inl rfl) v7).setCell (p := ⟨g, 8, none⟩) (.inl rfl) v8).setCell (p := ⟨g, 9, none⟩) (.inl rfl) v9).setCell (p := ⟨g, 10, none⟩) (.inl rfl) v10).setCell (p := ⟨g, 11, none⟩) (.inl rfl) v11).setCell (p := ⟨g, 12, none⟩) (.inl rfl) v12).setCell (p := ⟨g, 13, none⟩) (.inl rfl) v13)⟩
theorem Blk.cells15 {w : World} {g : Nat} {t : TypeId} {a0 a1 a2 a3 a4 a5 a6 a7 a8 a9 a10 a11 a12 a13 a14 : Value} (h : Blk w g t #[a0, a1, a2, a3, a4, a5, a6, a7, a8, a9, a10, a11, a12, a13, a14]) : w.cell? ⟨g, 0, none⟩ = some a0 ∧ w.cell? ⟨g, 1, none⟩ = some a1 ∧ w.cell? ⟨g, 2, none⟩ = some a2 ∧ w.cell? ⟨g, 3, none⟩ = some a3 ∧ w.cell? ⟨g, 4, none⟩ = some a4 ∧ w.cell? ⟨g, 5, none⟩ = some a5 ∧ w.cell? ⟨g, 6, none⟩ = some a6 ∧ w.cell? ⟨g, 7, none⟩ = some a7 ∧ w.cell? ⟨g, 8, none⟩ = some a8 ∧ w.cell? ⟨g, 9, none⟩ = some a9 ∧ w.cell? ⟨g, 10, none⟩ = some a10 ∧ w.cell? ⟨g, 11, none⟩ = some a11 ∧ w.cell? ⟨g, 12, none⟩ = some a12 ∧ w.cell? ⟨g, 13, none⟩ = some a13 ∧ w.cell? ⟨g, 14, none⟩ = some a14 :=
 ⟨h.cell 0, h.cell 1, h.cell 2, h.cell 3, h.cell 4, h.cell 5, h.cell 6, h.cell 7, h.cell 8, h.cell 9, h.cell 10, h.cell 11, h.cell 12, h.cell 13, h.cell 14⟩
def StpMid (B g br bx : Nat) (ws : WS) (bad : Bool) (w wc : World) : Prop :=
 ∃ S Fs, RdB wc B g (stepP ws bad).2.1 (stepP ws bad).2.2 ∧ Blk wc bx 31 (stpC (stepP ws bad).1 S Fs) ∧ StpOwn wc w.heap.size (stepP ws bad).1 S Fs ∧ (stepP ws bad).1.Ok ∧ Blk wc br 31 #[.int .u8 0, .int .i64 0, .int .i64 0, .int .u8 0, .int .i64 0, .string ⟨#[]⟩, .int .i64 0, .int .i64 0, .int .i64 0, .int .i64 0, .int .i64 0, .int .i64 0, .slice none 0 0, .slice none 0 0, .slice none 0 0] ∧ Turned (· = g) w wc
def StpPost (B g : Nat) (ws : WS) (bad : Bool) (w : World) (e : Ending) (w' : World) : Prop :=
 ∃ S Fs, e = .returned (.agg (stpC (stepP ws bad).1 S Fs)) ∧ RdB w' B g (stepP ws bad).2.1 (stepP ws bad).2.2 ∧ StpOwn w' w.heap.size (stepP ws bad).1 S Fs ∧ (stepP ws bad).1.Ok ∧ Turned (· = g) w w'
theorem StpMid.of {B g br bx : Nat} {ws ws' : WS} {bad bad' : Bool} {w wc : World} {x : StepV} {S : AskS} {Fs : Sl} (he : stepP ws bad = (x, ws', bad')) (h1 : RdB wc B g ws' bad') (h2 : Blk wc bx 31 (stpC x S Fs)) (h3 : StpOwn wc w.heap.size x S Fs) (h4 : x.Ok) (h5 : Blk wc br 31 #[.int .u8 0, .int .i64 0, .int .i64 0, .int .u8 0, .int .i64 0, .string ⟨#[]⟩, .int .i64 0, .int .i64 0, .int .i64 0, .int .i64 0, .int .i64 0, .int .i64 0, .slice none 0 0, .slice none 0 0, .slice none 0 0]) (h6 : Turned (· = g) w wc) : StpMid B g br bx ws bad w wc := by
 unfold StpMid
 rw [he]
 exact ⟨S, Fs, h1, h2, h3, h4, h5, h6⟩
structure CrW (w0 w : World) (B g br bx : Nat) (l : List Int) (ws : WS) (bad : Bool) (Fs : Sl) (W : World) : Prop where
 base : BaseK w0 W g
 rd : RdB W B g ws bad
 xx : Blk W bx 31 #[.int .u8 5, .int .i64 0, .int .i64 0, .int .u8 0, .int .i64 0, .string ⟨#[]⟩, .int .i64 0, .int .i64 0, .int .i64 0, .int .i64 0, .int .i64 0, .int .i64 0, .slice none 0 0, .slice none 0 0, .slice Fs.A Fs.n Fs.c]
 own : OwnE W 53 1 Fs.A Fs.n Fs.c (fateC l)
 fB : ∀ i, Fs.A = some ⟨i, 0, none⟩ → w.heap.size ≤ i
 ok : ∀ n ∈ l, I64 n
 res : Blk W br 31 #[.int .u8 0, .int .i64 0, .int .i64 0, .int .u8 0, .int .i64 0, .string ⟨#[]⟩, .int .i64 0, .int .i64 0, .int .i64 0, .int .i64 0, .int .i64 0, .int .i64 0, .slice none 0 0, .slice none 0 0, .slice none 0 0]
 t : Turned (· = g) w W
 few : l.length + ws.length ≤ 1000000
 b1 : B ≤ w.heap.size
 b2 : w.heap.size ≤ br
 b3 : br < bx
section
variable {w0 w W W' : World} {B g br bx : Nat} {l : List Int} {ws ws' : WS} {bad bad' : Bool} {Fs : Sl}
theorem CrW.tk (h : CrW w0 w B g br bx l ws bad Fs W) (r : RdB W' B g ws' bad') (ht : Turned (· = g) W W') (hl : ws'.length ≤ ws.length) : CrW w0 w B g br bx l ws' bad' Fs W' := by
 have := h.rd.gB
 have := h.b1
 have := h.b2
 have := h.b3
 exact ⟨h.base.next ht, r, h.xx.turned ht (by omega), h.own.turned ht (fun i e k => by have := h.fB i e; omega), h.fB, h.ok, h.res.turned ht (by omega), h.t.eq_ ht, by have := h.few; omega, h.b1, h.b2, h.b3⟩
theorem CrW.fresh (h : CrW w0 w B g br bx l ws bad Fs W) (ht : Turned (fun _ => False) W W') : CrW w0 w B g br bx l ws bad Fs W' := h.tk (h.rd.fresh ht) (turned_same ht) (Nat.le_refl _)
theorem CrW.grow {V : Nat → Prop} {A' : Option Addr} {c' : Nat} {n : Int} (h : CrW w0 w B g br bx l ws bad Fs W) (ht : Turned V W W') (hV : ∀ i, V i → Fs.A = some ⟨i, 0, none⟩) (ho : OwnE W' 53 1 A' (Fs.n + 1) c' (fateC (l ++ [n]))) (hfB : ∀ i, A' = some ⟨i, 0, none⟩ → w.heap.size ≤ i) (hn : I64 n) (hf : l.length + 1 + ws.length ≤ 1000000) : CrW w0 w B g br bx (l ++ [n]) ws bad ⟨A', Fs.n + 1, c'⟩ (W'.setCell ⟨bx, 14, none⟩ (.slice A' (Fs.n + 1) c')) := by
 have g1 := h.rd.gB
 have g2 := h.b1
 have g3 := h.b2
 have g4 := h.b3
 have hVx : ¬ V bx := fun e => h.own.blk h.xx (by decide) (hV _ e) rfl
 have hVr : ¬ V br := fun e => h.own.blk h.res (by decide) (hV _ e) rfl
 have hVB : ∀ i, V i → w.heap.size ≤ i := fun i e => h.fB i (hV i e)
 have tS := turned_one W' bx 14 (.slice A' (Fs.n + 1) c')
 have xx' := h.xx.turned ht hVx
 have b0 : w0.heap.size ≤ B := by have := h.base.b.g; omega
 refine ⟨⟨⟨h.base.b.vars, (h.base.b.t.trans ht (fun _ e => e) (fun j e => .inr (by have := hVB j e; omega))).trans tS (fun _ e => e) (fun j e => .inr (by subst e; omega)), h.base.b.g⟩, h.base.kinds, h.base.verbs⟩, (h.rd.turned ht (fun j e => by have := hVB j e; omega)).turned tS (fun j e => by subst e; omega), ?_, ho.turned tS (fun i e k => ho.blk xx' (by decide) e k), hfB, fun m hm => ?_, (h.res.turned ht hVr).turned tS (by omega), (h.t.trans ht (fun _ e => e) (fun j e => .inr (hVB j e))).trans tS (fun _ e => e) (fun j e => .inr (by subst e; omega)), by rw [List.length_append]; simp only [List.length_cons, List.length_nil]; omega, h.b1, h.b2, h.b3⟩
 ·have := xx'.set_ 14 (.slice A' (Fs.n + 1) c')
  simp only [zA, zB, zC] at this
  exact this
 ·rcases List.mem_append.1 hm with hm | hm
  ·exact h.ok m hm
  ·simp only [List.mem_singleton] at hm
   subst hm
   exact hn
end
def CrRel (w0 w : World) (B g br bx : Nat) (ws : WS) (bad : Bool) (wr : World) : Prop :=
 ∃ (l : List Int) (ws6 : WS) (b6 : Bool) (Fs : Sl), CrW w0 w B g br bx l ws6 b6 Fs wr ∧ fatesP ws bad = (l ++ (fatesP ws6 b6).1, (fatesP ws6 b6).2)
end Go.Proofs.YtglojnmcbochaaaGreatDoor

