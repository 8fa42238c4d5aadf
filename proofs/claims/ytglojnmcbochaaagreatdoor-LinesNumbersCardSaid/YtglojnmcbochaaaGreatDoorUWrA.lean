/-
 A writer of words in memory; it takes words and numbers. Conditions: the library's variables hold what their initialisers lay; at most 1000000 words.
-/
import Derived.Test.YtglojnmcbochaaaGreatDoorUShf
import Derived.Test.YtglojnmcbochaaaGreatDoorUAskB
import Derived.Test.YtglojnmcbochaaaGreatDoorULnsP
namespace Go.Proofs.YtglojnmcbochaaaGreatDoor
open Go.RowKit Go.Maps
set_option linter.unusedVariables false
set_option linter.unusedSimpArgs false

def StrAt (w : World) (i : Nat) : Prop := ∃ cs f, w.heap[i]? = some (.cells cs 9 f)
def WrT (B g : Nat) (w w' : World) : Prop := Turned (fun i => i = g ∨ (B ≤ i ∧ StrAt w i)) w w'
section
variable {B g : Nat} {w w' w0 a b c : World}
theorem WrT.refl (w : World) : WrT B g w w := Turned.refl _ w
theorem WrT.of (h : Turned (fun _ => False) w w') : WrT B g w w' := Turned.mono h (fun _ e => e.elim)
theorem WrT.one (h : Turned (· = g) w w') : WrT B g w w' := Turned.mono h (fun _ e => .inl (.inl e))
theorem WrT.trans (h : WrT B g a b) (k : WrT B g b c) : WrT B g a c := by
 refine Turned.trans (W := fun i => i = g ∨ (B ≤ i ∧ StrAt a i)) h k (fun _ e => e) (fun i e => ?_)
 rcases e with e | ⟨e1, cs, f, e2⟩
 ·exact .inl (.inl e)
 ·rcases Nat.lt_or_ge i a.heap.size with hl | hl
  ·by_cases hi : i = g ∨ (B ≤ i ∧ StrAt a i)
   ·exact .inl hi
   ·have := h.block i hl hi
    exact .inl (.inr ⟨e1, cs, f, this ▸ e2⟩)
  ·exact .inr hl
theorem WrT.blk {L : Nat} {T : TypeId} {cs : Array Value} (h : WrT B g w w') (hb : Blk w L T cs) (hT : T ≠ 9) (hg : L ≠ g) : Blk w' L T cs := by
 refine hb.turned h (fun e => ?_)
 rcases e with e | ⟨_, cs', f, e⟩
 ·exact hg e
 ·unfold Blk at hb
  rw [hb] at e
  injection e with e
  injection e with _ e
  exact hT e
theorem WrT.low (h : WrT B g w w') (hg : B ≤ g) : Turned (fun i => B ≤ i) w w' := Turned.mono h (fun i e => .inl (by rcases e with rfl | ⟨e, _⟩ <;> assumption))
theorem WrT.all (h : WrT w0.heap.size g w w') (t : Turned (fun _ => False) w0 w) (hg : w0.heap.size ≤ g) : Turned (fun _ => False) w0 w' := t.trans (h.low hg) (fun _ e => e) (fun i e => .inr e)
end
def WrW (w : World) (B g : Nat) (ws : WS) : Prop :=
 ∃ A c, Blk w g 82 #[.slice A ws.length c] ∧ OwnE w 9 1 A ws.length c (textC ws) ∧ ∀ i, A = some ⟨i, 0, none⟩ → B ≤ i
theorem WrW.fresh {w w' : World} {B g : Nat} {ws : WS} (h : WrW w B g ws) (ht : Turned (fun _ => False) w w') : WrW w' B g ws := by
 obtain ⟨A, c, h1, h2, h3⟩ := h
 exact ⟨A, c, h1.turned ht (fun e => e), h2.fresh ht, h3⟩
theorem WrW.lt {w : World} {B g : Nat} {ws : WS} (h : WrW w B g ws) : g < w.heap.size := by
 obtain ⟨A, c, h1, _⟩ := h
 exact h1.lt
def WrPost (B g : Nat) (ws : WS) (w : World) (e : Ending) (w' : World) : Prop := e = .returned (.tuple #[]) ∧ WrW w' B g ws ∧ WrT B g w w'
theorem StrAt.of_own {w : World} {A : Option Addr} {n c i : Nat} {xs : List Value} (h : OwnE w 9 1 A n c xs) (e : A = some ⟨i, 0, none⟩) : StrAt w i := by
 subst e
 obtain ⟨cs, hb, _⟩ := h.row.row
 exact ⟨cs, _, hb⟩
theorem WrW.grow {w w' : World} {B g : Nat} {ws us : WS} {A A' : Option Addr} {c c' : Nat} (hbz : B ≤ w.heap.size) (h1 : Blk w g 82 #[.slice A ws.length c]) (h2 : OwnE w 9 1 A ws.length c (textC ws)) (h3 : ∀ i, A = some ⟨i, 0, none⟩ → B ≤ i)
  (ho : OwnE w' 9 1 A' (ws.length + us.length) c' (textC ws ++ textC us)) (hor : App2 w w' A A' c c') :
  WrW (w'.setCell ⟨g, 0, none⟩ (.slice A' (ws.length + us.length) c')) B g (ws ++ us) ∧ WrT B g w (w'.setCell ⟨g, 0, none⟩ (.slice A' (ws.length + us.length) c')) := by
 have tS := turned_one w' g 0 (.slice A' (ws.length + us.length) c')
 have x1 := h1.turned hor.turned (fun e => h2.blk h1 (by decide) e rfl)
 have x2 := x1.set_ 0 (.slice A' (ws.length + us.length) c')
 simp only [zA, zB] at x2
 refine ⟨⟨A', c', ?_, ?_, ?_⟩, ?_⟩
 ·rw [List.length_append]; exact x2
 ·rw [List.length_append, textC_append]
  exact ho.turned tS (fun i e k => ho.blk x1 (by decide) e k)
 ·intro i e
  rcases hor.at_ hbz with ⟨h, _⟩ | ⟨g2, h, h'⟩
  ·exact h3 i (by rw [← h]; exact e)
  ·rw [h] at e
   injection e with e
   injection e with e
   omega
 ·refine Turned.trans (W := fun i => i = g ∨ (B ≤ i ∧ StrAt w i)) hor.turned tS (fun i e => .inr ⟨h3 i e, StrAt.of_own h2 e⟩) (fun i e => .inl (.inl e))
set_option maxRecDepth 100000 in
set_option maxHeartbeats 1000000 in
theorem wr_word (B g : Nat) (ws us : WS) (s : Sl) (w : World) (h : WrW w B g ws) (hs : SlT w s us) (hbz : B ≤ w.heap.size) (hu : 0 < us.length) (hN : ws.length + us.length ≤ 1000000) : Calls Tryz.prog 34 #[.pointer (some ⟨g, 0, none⟩), .slice s.A s.n s.c] w (WrPost B g (ws ++ us) w) := by
 obtain ⟨A, c, h1, h2, h3⟩ := h
 obtain ⟨sA, sn, sc⟩ := s
 have hl := hs.len
 simp only at hl
 subst hl
 obtain ⟨b, off, hA, _⟩ := hs.cells hu
 simp only at hA
 subst hA
 have hnews := hs.cel.news _ rfl
 have h1' := hZ h1
 have h2' := hZ h2
 have h3' := hZ h3
 have hn' := hZ hnews
 have x0 : w.cell? ⟨g, 0, none⟩ = some (.slice A ws.length c) := h1.cell 0
 have xf := h1.frozen 0
 clear h1 h2 h3 hs hnews
 go_enter Tryz.func34, Tryz.ntmps34
 go_wp2_with (at_builtin; refine wpList_appE textT rfl (.tmp 8) (.tmp 9) rfl h2'.out ⟨b, off, none⟩ us.length sc (textC us) (by rw [textC_length, Nat.mul_one]) hn'.out (textC_one us) hu (by unfold maxLen; omega) (by omega) rfl rfl ?_; intro A9 c9 W9 ho9 hor9; have y0 : W9.cell? ⟨g, 0, none⟩ = some (.slice A ws.length c) := (h1'.out.turned hor9.turned (fun e => h2'.out.blk h1'.out (by decide) e rfl)).cell 0; have yf := (h1'.out.turned hor9.turned (fun e => h2'.out.blk h1'.out (by decide) e rfl)).frozen 0)
 go_end0
 obtain ⟨r1, r2⟩ := WrW.grow hbz h1'.out h2'.out h3'.out ho9 hor9
 exact ⟨rfl, r1, r2⟩
theorem wr_word0 (B g : Nat) (ws : WS) (sA : Option Addr) (sc : Nat) (w : World) (h : WrW w B g ws) (hn : sA = none → sc = 0) (hw : 0 < ws.length) : Calls Tryz.prog 34 #[.pointer (some ⟨g, 0, none⟩), .slice sA 0 sc] w (WrPost B g ws w) := by
 obtain ⟨A, c, h1, h2, h3⟩ := h
 obtain ⟨b, hA, _⟩ := h2.some_ hw
 subst hA
 have h1' := hZ h1
 have h2' := hZ h2
 have h3' := hZ h3
 have hn' := hZ hn
 have x0 : w.cell? ⟨g, 0, none⟩ = some (.slice (some ⟨b, 0, none⟩) ws.length c) := h1.cell 0
 have xf := h1.frozen 0
 have hbg := h2.blk h1 (by decide) rfl
 clear h1 h2 h3 hn
 go_enter Tryz.func34, Tryz.ntmps34
 go_wp2_with (at_builtin; refine wpList_appE0 textT rfl (.tmp 8) (.tmp 9) rfl h2'.out sA sc hn'.out rfl rfl ?_; intro W9 ho9 hor9; have y0 : W9.cell? ⟨g, 0, none⟩ = some (.slice (some ⟨b, 0, none⟩) ws.length c) := (h1'.out.turned hor9 (fun e => hbg e.symm)).cell 0; have yf := (h1'.out.turned hor9 (fun e => hbg e.symm)).frozen 0)
 go_end0
 have tS := turned_one W9 g 0 (.slice (some ⟨b, 0, none⟩) ws.length c)
 have x1 := h1'.out.turned hor9 (fun e => hbg e.symm)
 have x2 := x1.set_ 0 (.slice (some ⟨b, 0, none⟩) ws.length c)
 simp only [zA, zB] at x2
 exact ⟨rfl, ⟨_, c, x2, ho9.turned tS (fun i e k => ho9.blk x1 (by decide) e k), h3'.out⟩, Turned.trans (W := fun i => i = g ∨ (B ≤ i ∧ StrAt w i)) hor9 tS (fun i e => by subst e; exact .inr ⟨h3'.out _ rfl, StrAt.of_own h2'.out rfl⟩) (fun i e => .inl (.inl e))⟩
/-! rows just made -/
theorem slT_new1 (w : World) (a : List UInt8) : SlT (w.alloc (.cells #[.string ⟨a.toArray⟩] 9)) ⟨some ⟨w.heap.size, 0, none⟩, 1, 1⟩ [a] :=
 OwnE.slT (T := 9) (OwnE.of_row (RowE.new w 9 1 1 #[.string ⟨a.toArray⟩] rfl (by unfold maxLen; omega)))
theorem slT_new2 (w : World) (a b : List UInt8) : SlT (w.alloc (.cells #[.string ⟨a.toArray⟩, .string ⟨b.toArray⟩] 9)) ⟨some ⟨w.heap.size, 0, none⟩, 2, 2⟩ [a, b] :=
 OwnE.slT (T := 9) (OwnE.of_row (RowE.new w 9 1 2 #[.string ⟨a.toArray⟩, .string ⟨b.toArray⟩] rfl (by unfold maxLen; omega)))
theorem slT_new3 (w : World) (a b c : List UInt8) : SlT (w.alloc (.cells #[.string ⟨a.toArray⟩, .string ⟨b.toArray⟩, .string ⟨c.toArray⟩] 9)) ⟨some ⟨w.heap.size, 0, none⟩, 3, 3⟩ [a, b, c] :=
 OwnE.slT (T := 9) (OwnE.of_row (RowE.new w 9 1 3 #[.string ⟨a.toArray⟩, .string ⟨b.toArray⟩, .string ⟨c.toArray⟩] rfl (by unfold maxLen; omega)))
theorem WrPost.pre {B g : Nat} {ws : WS} {w w1 : World} {e : Ending} {w' : World} (t : Turned (fun _ => False) w w1) (h : WrPost B g ws w1 e w') : WrPost B g ws w e w' := ⟨h.1, h.2.1, (WrT.of t).trans h.2.2⟩
theorem wr_word1 {B g : Nat} {ws : WS} {w : World} (a : List UInt8) (h : WrW w B g ws) (hbz : B ≤ w.heap.size) (hN : ws.length + 1 ≤ 1000000) : Calls Tryz.prog 34 #[.pointer (some ⟨g, 0, none⟩), .slice (some ⟨w.heap.size, 0, none⟩) 1 1] (w.alloc (.cells #[.string ⟨a.toArray⟩] 9)) (WrPost B g (ws ++ [a]) w) := by
 have t := (Turned.refl (fun _ => False) w).alloc (.cells #[.string ⟨a.toArray⟩] 9)
 exact (wr_word B g ws [a] ⟨some ⟨w.heap.size, 0, none⟩, 1, 1⟩ _ (h.fresh t) (slT_new1 w a) (by simp; omega) (by simp) hN).mono fun _ _ hp => hp.pre t
theorem wr_word2 {B g : Nat} {ws : WS} {w : World} (a b : List UInt8) (h : WrW w B g ws) (hbz : B ≤ w.heap.size) (hN : ws.length + 2 ≤ 1000000) : Calls Tryz.prog 34 #[.pointer (some ⟨g, 0, none⟩), .slice (some ⟨w.heap.size, 0, none⟩) 2 2] (w.alloc (.cells #[.string ⟨a.toArray⟩, .string ⟨b.toArray⟩] 9)) (WrPost B g (ws ++ [a, b]) w) := by
 have t := (Turned.refl (fun _ => False) w).alloc (.cells #[.string ⟨a.toArray⟩, .string ⟨b.toArray⟩] 9)
 exact (wr_word B g ws [a, b] ⟨some ⟨w.heap.size, 0, none⟩, 2, 2⟩ _ (h.fresh t) (slT_new2 w a b) (by simp; omega) (by simp) hN).mono fun _ _ hp => hp.pre t
theorem wr_word3 {B g : Nat} {ws : WS} {w : World} (a b c : List UInt8) (h : WrW w B g ws) (hbz : B ≤ w.heap.size) (hN : ws.length + 3 ≤ 1000000) : Calls Tryz.prog 34 #[.pointer (some ⟨g, 0, none⟩), .slice (some ⟨w.heap.size, 0, none⟩) 3 3] (w.alloc (.cells #[.string ⟨a.toArray⟩, .string ⟨b.toArray⟩, .string ⟨c.toArray⟩] 9)) (WrPost B g (ws ++ [a, b, c]) w) := by
 have t := (Turned.refl (fun _ => False) w).alloc (.cells #[.string ⟨a.toArray⟩, .string ⟨b.toArray⟩, .string ⟨c.toArray⟩] 9)
 exact (wr_word B g ws [a, b, c] ⟨some ⟨w.heap.size, 0, none⟩, 3, 3⟩ _ (h.fresh t) (slT_new3 w a b c) (by simp; omega) (by simp) hN).mono fun _ _ hp => hp.pre t
/-! numbers -/
structure SlI (w : World) (s : Sl) (l : List Int) : Prop where
 cel : CelR w s.A s.n (l.map (.int .i64))
 le : s.n ≤ s.c
 max : s.c ≤ maxLen
theorem SlI.len {w : World} {s : Sl} {l : List Int} (h : SlI w s l) : l.length = s.n := by have := h.cel.len; simpa using this
theorem SlI.cells {w : World} {s : Sl} {l : List Int} (h : SlI w s l) (hn : 0 < s.n) : ∃ b off, s.A = some ⟨b, off, none⟩ ∧ ∀ i, i < s.n → w.cell? ⟨b, off + i, none⟩ = some (.int .i64 (l.getD i 0)) := by
 obtain ⟨b, off, e, hc⟩ := h.cel.cell hn
 refine ⟨b, off, e, fun i hi => ?_⟩
 have hl := h.len
 rw [hc i hi]
 simp [List.getD_eq_getElem?_getD, show i < l.length by omega]
def WrNRel (B g : Nat) (ws : WS) (ns : List Int) (w : World) (i : Value) (wr : World) : Prop := ∃ j : Nat, j ≤ ns.length ∧ i = .int .i64 j ∧ WrW wr B g (ws ++ (ns.take j).map Lib.itoa) ∧ WrT B g w wr
set_option maxRecDepth 100000 in
set_option maxHeartbeats 1000000 in
theorem wr_number (w0 : World) (g : Nat) (ws : WS) (ns : List Int) (s : Sl) (w : World) (hv : VarsOk w0) (t0 : Turned (fun _ => False) w0 w) (hg : w0.heap.size ≤ g) (h : WrW w w0.heap.size g ws) (hs : ∀ w', WrT w0.heap.size g w w' → SlI w' s ns) (h64 : ∀ n ∈ ns, int64 n) (hN : ws.length + ns.length ≤ 1000000) :
  Calls Tryz.prog 33 #[.pointer (some ⟨g, 0, none⟩), .slice s.A s.n s.c] w (WrPost w0.heap.size g (ws ++ ns.map Lib.itoa) w) := by
 obtain ⟨sA, sn, sc⟩ := s
 have hl := (hs w (WrT.refl w)).len
 have hle := (hs w (WrT.refl w)).le
 have hmx := (hs w (WrT.refl w)).max
 simp only at hl hle hmx ⊢
 unfold maxLen at hmx
 subst hl
 have hs' := hZ hs
 have h' := hZ h
 have t0' := hZ t0
 have hv' := hZ hv
 have h6 := hZ h64
 clear hs h t0 hv h64
 go_enter Tryz.func33, Tryz.ntmps33
 go_wp2
 have hst := hZ (show WrNRel w0.heap.size g ws ns w (.int .i64 0) w from ⟨0, Nat.zero_le _, rfl, by simpa using h'.out, WrT.refl w⟩)
 go_loopw [8] (fun i wr => WrNRel w0.heap.size g ws ns w i wr) (fun i _ => ns.length - (intOf i).toNat)
 case atStart => exact hst.out
 case round =>
  obtain ⟨j, hj, rfl, hW0, hT0⟩ := hrel
  have hW := hZ hW0
  have hT := hZ hT0
  clear hW0 hT0 hst
  by_cases hlt : j < ns.length
  ·have hji : (j : Int) < (ns.length : Int) := by omega
   obtain ⟨b, off, hA, hc⟩ := (hs'.out _ hT.out).cells (show 0 < ns.length by omega)
   simp only at hA
   subst hA
   have q1 : wr.cell? ⟨b, off + j, none⟩ = some (.int .i64 (ns.getD j 0)) := hc j hlt
   clear hc
   have hmem : ns.getD j 0 ∈ ns := by
    rw [List.getD_eq_getElem?_getD, List.getElem?_eq_getElem hlt]
    exact List.getElem_mem hlt
   have hx := h6.out _ hmem
   have htk : (ns.take (j + 1)).map Lib.itoa = (ns.take j).map Lib.itoa ++ [Lib.itoa (ns.getD j 0)] := by
    rw [List.take_succ_eq_append_getElem hlt, List.map_append]
    simp [List.getD_eq_getElem?_getD, hlt]
   have htk := hZ htk
   have hlen := hZ (show (ws ++ (ns.take j).map Lib.itoa).length + 1 ≤ 1000000 by rw [List.length_append, List.length_map, List.length_take]; omega)
   clear hmem
   generalize ns.getD j 0 = x at *
   have hx' := hZ hx
   clear hx
   go_wp2_with fail
   refine (text_any x _ (hv'.out.turned (hT.out.all t0'.out hg)) hx'.out).mono ?_
   rintro e w1 ⟨rfl, t1⟩
   have t1 := hZ t1
   have hz := hZ (show w0.heap.size ≤ w1.heap.size from Nat.le_trans (t0'.out.size) (Nat.le_trans hT.out.size t1.out.size))
   go_wp2_with fail
   refine (wr_word1 (Lib.itoa x) (hW.out.fresh t1.out) hz.out hlen.out).mono ?_
   rintro e w2 ⟨rfl, hW2, t2⟩
   have hW2 := hZ hW2
   have t2 := hZ t2
   go_wp2_with fail
   go_roundw
   case rel => exact ⟨j + 1, hlt, by go_num, by rw [htk.out, ← List.append_assoc]; exact hW2.out, (hT.out.trans (WrT.of t1.out)).trans t2.out⟩
   case measure => simp [intOf] <;> omega
  ·have hge : (ns.length : Int) ≤ (j : Int) := by omega
   have hjn : j = ns.length := by omega
   subst hjn
   go_wp2
   go_end0
   have h9 := hW.out
   rw [List.take_length] at h9
   exact ⟨rfl, h9, hT.out⟩
theorem slI_new {w : World} {l : List Int} (cs : Array Value) (hcs : cs = (l.map (Value.int .i64)).toArray) (B g : Nat) (hl : l.length ≤ 1000) (hg : g < w.heap.size) : ∀ w', WrT B g (w.alloc (.cells cs 2)) w' → SlI w' ⟨some ⟨w.heap.size, 0, none⟩, l.length, l.length⟩ l := by
 intro w' ht
 have hb := ht.blk (Blk.new w 2 cs) (by decide) (by omega)
 have hr : RowE w' 2 1 w.heap.size l.length l.length (l.map (.int .i64)) := ⟨by simp, Nat.le_refl _, by unfold maxLen; omega, cs, hb, by rw [hcs]; simp, by rw [hcs, Nat.mul_one]; exact List.take_of_length_le (by simp)⟩
 have := hr.celR
 rw [Nat.mul_one] at this
 exact ⟨this, Nat.le_refl _, by show l.length ≤ _; unfold maxLen; omega⟩
theorem wr_nums (w0 : World) (g : Nat) (ws : WS) (ns : List Int) (cs : Array Value) (w : World) (hcs : cs = (ns.map (Value.int .i64)).toArray) (hv : VarsOk w0) (t0 : Turned (fun _ => False) w0 w) (hg : w0.heap.size ≤ g) (h : WrW w w0.heap.size g ws) (h64 : ∀ n ∈ ns, int64 n) (hl : ns.length ≤ 1000) (hN : ws.length + ns.length ≤ 1000000) :
  Calls Tryz.prog 33 #[.pointer (some ⟨g, 0, none⟩), .slice (some ⟨w.heap.size, 0, none⟩) ns.length ns.length] (w.alloc (.cells cs 2)) (WrPost w0.heap.size g (ws ++ ns.map Lib.itoa) w) := by
 have t := (Turned.refl (fun _ => False) w).alloc (.cells cs 2)
 exact (wr_number w0 g ws ns ⟨some ⟨w.heap.size, 0, none⟩, ns.length, ns.length⟩ _ hv (t0.and_ t) hg (h.fresh t) (slI_new cs hcs _ g hl h.lt) h64 hN).mono fun _ _ hp => hp.pre t
theorem wr_num1 {w0 w : World} {g : Nat} {ws : WS} (a : Int) (hv : VarsOk w0) (t0 : Turned (fun _ => False) w0 w) (hg : w0.heap.size ≤ g) (h : WrW w w0.heap.size g ws) (ha : I64 a) (hN : ws.length + 1 ≤ 1000000) :
  Calls Tryz.prog 33 #[.pointer (some ⟨g, 0, none⟩), .slice (some ⟨w.heap.size, 0, none⟩) 1 1] (w.alloc (.cells #[.int .i64 a] 2)) (WrPost w0.heap.size g (ws ++ [Lib.itoa a]) w) :=
 wr_nums w0 g ws [a] _ w rfl hv t0 hg h (by intro n hn; simp only [List.mem_singleton] at hn; subst hn; exact ha) (by simp) hN
theorem wr_num2 {w0 w : World} {g : Nat} {ws : WS} (a b : Int) (hv : VarsOk w0) (t0 : Turned (fun _ => False) w0 w) (hg : w0.heap.size ≤ g) (h : WrW w w0.heap.size g ws) (ha : I64 a) (hb : I64 b) (hN : ws.length + 2 ≤ 1000000) :
  Calls Tryz.prog 33 #[.pointer (some ⟨g, 0, none⟩), .slice (some ⟨w.heap.size, 0, none⟩) 2 2] (w.alloc (.cells #[.int .i64 a, .int .i64 b] 2)) (WrPost w0.heap.size g (ws ++ [Lib.itoa a, Lib.itoa b]) w) :=
 wr_nums w0 g ws [a, b] _ w rfl hv t0 hg h (by intro n hn; simp only [List.mem_cons, List.not_mem_nil, or_false] at hn; rcases hn with rfl | rfl <;> assumption) (by simp) hN
theorem wr_num3 {w0 w : World} {g : Nat} {ws : WS} (a b c : Int) (hv : VarsOk w0) (t0 : Turned (fun _ => False) w0 w) (hg : w0.heap.size ≤ g) (h : WrW w w0.heap.size g ws) (ha : I64 a) (hb : I64 b) (hc : I64 c) (hN : ws.length + 3 ≤ 1000000) :
  Calls Tryz.prog 33 #[.pointer (some ⟨g, 0, none⟩), .slice (some ⟨w.heap.size, 0, none⟩) 3 3] (w.alloc (.cells #[.int .i64 a, .int .i64 b, .int .i64 c] 2)) (WrPost w0.heap.size g (ws ++ [Lib.itoa a, Lib.itoa b, Lib.itoa c]) w) :=
 wr_nums w0 g ws [a, b, c] _ w rfl hv t0 hg h (by intro n hn; simp only [List.mem_cons, List.not_mem_nil, or_false] at hn; rcases hn with rfl | rfl | rfl <;> assumption) (by simp) hN
theorem wr_num4 {w0 w : World} {g : Nat} {ws : WS} (a b c d : Int) (hv : VarsOk w0) (t0 : Turned (fun _ => False) w0 w) (hg : w0.heap.size ≤ g) (h : WrW w w0.heap.size g ws) (ha : I64 a) (hb : I64 b) (hc : I64 c) (hd : I64 d) (hN : ws.length + 4 ≤ 1000000) :
  Calls Tryz.prog 33 #[.pointer (some ⟨g, 0, none⟩), .slice (some ⟨w.heap.size, 0, none⟩) 4 4] (w.alloc (.cells #[.int .i64 a, .int .i64 b, .int .i64 c, .int .i64 d] 2)) (WrPost w0.heap.size g (ws ++ [Lib.itoa a, Lib.itoa b, Lib.itoa c, Lib.itoa d]) w) :=
 wr_nums w0 g ws [a, b, c, d] _ w rfl hv t0 hg h (by intro n hn; simp only [List.mem_cons, List.not_mem_nil, or_false] at hn; rcases hn with rfl | rfl | rfl | rfl <;> assumption) (by simp) hN
end Go.Proofs.YtglojnmcbochaaaGreatDoor

