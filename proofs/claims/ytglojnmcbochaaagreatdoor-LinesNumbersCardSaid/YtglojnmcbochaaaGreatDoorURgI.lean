/-
 ytglojnmcbochaaagreatdoor: laws and walks on the road to LinesNumbers, joined: Ifn Splt WrdF RgI. Conditions stand at each theorem.
-/
import Derived.Test.YtglojnmcbochaaaGreatDoorUCodN
import Derived.RangeFuncNested
import Derived.RangeFuncBound
import Derived.RangeFuncCalls
import Derived.RangeFuncLeaves
import Derived.Shelf.Abstract
import Derived.Shelf.RegionOpen
import Derived.OwnWalkIn
import Derived.TacticsInMore
import Derived.LoopNIn
import Derived.LoopIn
import Derived.Test.YtglojnmcbochaaaGreatDoorULnsP
import Derived.Test.YtglojnmcbochaaaGreatDoorUShf
import Derived.Lib.IndexLaws
import Derived.Maps.AppendAt
import Derived.Test.YtglojnmcbochaaaGreatDoorURegD
import Derived.OrdersIn
namespace Go.Proofs.YtglojnmcbochaaaGreatDoor
open Go.RowKit Go.Maps Go.Shelf
set_option linter.unusedVariables false

def OwnB (O : Nat → Prop) (s B : Nat) (k : Nat) : Prop := O k ∨ (s ≤ k ∧ k < B)
def Gives (n : Nat) (P : Program) (g : Nat) (lb : Array Value) (O : Nat → Prop) (xs : List ByteArray) (w : World) : Prop :=
 ∀ (l : Nat) (J : Nat → List ByteArray → World → Prop) (W : World), Turned (fun _ => False) w W →
  (∀ B pre A A', W.heap.size ≤ B → J B pre A → Turned (OwnB O W.heap.size B) A A' → J B pre A') →
  (∀ B A, A.heap.size = B → Turned O W A → J B [] A) →
  (∀ B pre x post A, W.heap.size ≤ B → B ≤ A.heap.size → J B pre A → xs = pre ++ x :: post → YieldAt Fence.wide (n - 1) P l #[.string x] A fun e A' =>
   e = .returned (.bool true) ∧ J B (pre ++ [x]) A' ∧ Turned (fun k => ¬ OwnB O W.heap.size B k) A A') →
  CallsIn Fence.wide n P g (#[.func (.yield l) #[] #[]] ++ lb) W fun e A' => (∃ v, e = .returned v) ∧ ∃ B, W.heap.size ≤ B ∧ B ≤ A'.heap.size ∧ J B xs A'

theorem turned_putObj (W : World) (l : Nat) (o : Obj) {T : Nat → Prop} (h : T l) : Turned T W (W.putObj l o) :=
 ⟨rfl, rfl, rfl, by simp, fun k _ hk => World.putObj_heap_other (fun e => hk (e ▸ h))⟩

def givePost (T : Nat → Prop) (I : World → Prop) (W : World) : Exit → Act → World → Prop
 | .normal, _, W' => Turned T W W' ∧ I W'
 | _, _, _ => False

variable {n : Nat} {P : Program}
theorem wpIn_range_gives {g : Operand} {p : Tmp} {assign body : Code} {Q : Exit → Act → World → Prop} {a : Act} {w : World}
  (h1 : 1 ≤ n) {gf : Nat} {lb : Array Value} (hg : a.eval g = .func (.func gf) #[] lb) (eg : ∀ args w, (callFunc gf args).run P w = .ok (.enter gf args) w)
  {O : Nat → Prop} {xs : List ByteArray} (hseq : Gives (n - 1) P gf lb O xs w) (hO : ∀ k, O k → k < w.heap.size)
  (I : Nat → List ByteArray → World → Prop)
  (hI : ∀ B pre A A', w.heap.size + 2 ≤ B → I B pre A → Turned (OwnB O w.heap.size B) A A' → I B pre A')
  (h0 : ∀ B A, A.heap.size = B → w.heap.size + 2 ≤ B → Turned O w A → I B [] A) (a₁ : ByteArray → Act)
  (hassign : ∀ (l : Nat) (x : ByteArray) (W : World) (K : Act → World → Prop), K (a₁ x) W →
   assign.wpIn (Fence.wide.inRound l) (n - 1 - 1) P (Exit.then K (fun _ _ _ => False)) { tmps := a.tmps.setIfInBounds p (.string x), defers := [] } W)
  (hbody : ∀ (l B : Nat) (pre : List ByteArray) (x : ByteArray) (post : List ByteArray) (W : World), w.heap.size + 2 ≤ B → B ≤ W.heap.size → I B pre W → xs = pre ++ x :: post →
   body.wpIn (Fence.wide.inRound l) (n - 1 - 1) P (givePost (fun k => ¬ OwnB O w.heap.size B k) (I B (pre ++ [x])) W) (a₁ x) W)
  (hdone : ∀ (B : Nat) (W : World), w.heap.size + 2 ≤ B → B ≤ W.heap.size → I B xs W → W.heap[w.heap.size]? = some (.deferred (some [])) → Q .normal { a with defers := { target := .collected w.heap.size, args := #[] } :: a.defers } W) :
  (Code.rangeFunc g #[p] assign body).wpIn Fence.wide n P Q a w := by
 refine wpIn_rangeFunc ?_
 intro fn hfn
 rw [show Fence.wide.round = none from rfl]
 obtain ⟨D, hD⟩ : ∃ D, w.heap.size = D := ⟨_, rfl⟩
 rw [hD] at hI h0 hbody hdone hO
 obtain ⟨rec, hrec⟩ : ∃ rec : LoopState → Option Code → Loop, rec = fun st pe => { state := st, pending := pe, fn, tmps := a.tmps, params := #[p], assign, body, defers := D } := ⟨_, rfl⟩
 obtain ⟨W1, hW1⟩ : ∃ W1, (w.alloc (.deferred (some []))).alloc (.loop (rec .ready none)) = W1 := ⟨_, rfl⟩
 have hs1 : W1.heap.size = D + 2 := by rw [← hW1]; simp [hD]
 have hL1 : W1.heap[D + 1]? = some (.loop (rec .ready none)) := by
  have := World.alloc_heap_new (w.alloc (.deferred (some []))) (.loop (rec .ready none))
  rw [World.size_alloc, hD] at this
  rw [← hW1]; exact this
 have hK1 : W1.heap[D]? = some (.deferred (some [])) := by
  rw [← hW1, ← hD]; exact (Below.heap_alloc _ _ _ (by simp)).trans (World.alloc_heap_new w _)
 have ht1 : Turned (fun _ => False) w W1 := by
  rw [← hW1]; exact ((Turned.refl _ w).alloc _).alloc _
 have hin : ∀ B k, D + 2 ≤ B → k = D ∨ k = D + 1 → OwnB O D B k := fun B k hB hk => .inr (by omega)
 have hout : ∀ B k, k = D ∨ k = D + 1 → ¬ OwnB O W1.heap.size B k := fun B k hk h => by
  rcases h with h | h
  ·have := hO k h; omega
  ·omega
 have hsub : ∀ B k, OwnB O W1.heap.size B k → OwnB O D B k := fun B k h => by
  rcases h with h | h
  ·exact .inl h
  ·exact .inr (by omega)
 refine ⟨D + 1, [{ target := .collected D, args := #[] }], W1, { target := .fn (.func gf) lb, args := #[.func (.yield (D + 1)) #[] #[]] }, W1, gf,
  #[.func (.yield (D + 1)) #[] #[]] ++ lb, W1, ?_, ?_, ?_, ?_, fun _ => h1, ?_⟩
 ·have := run_enterLoop_outer (P := P) (w := w) fn a.tmps #[p] assign body
  rw [hD] at this
  rw [← hW1, hrec]; exact this
 ·simp only [resolve, hg]
  simp [go_sem]
 ·intro f' _; trivial
 ·simp [invoke, go_sem, eg]
 ·refine (hseq (D + 1)
   (fun B pre A => I B pre A ∧ A.heap[D + 1]? = some (.loop (rec .ready none)) ∧ A.heap[D]? = some (.deferred (some [])))
   W1 ht1 ?_ ?_ ?_).mono ?_
  ·rintro B pre A A' hB ⟨hi, hl, hk⟩ ht
   have hDl := (Array.getElem?_eq_some_iff.1 hl).1
   exact ⟨hI B pre A A' (by omega) hi (ht.mono fun k hk => .inl (hsub B k hk)), (ht.block _ hDl (hout B _ (.inr rfl))).trans hl, (ht.block _ (by omega) (hout B _ (.inl rfl))).trans hk⟩
  ·intro B A hB ht
   refine ⟨h0 B A hB (by have := ht.size; omega) (ht1.trans ht (fun _ e => e.elim) (fun _ e => .inl e)), (ht.block _ (by omega) (fun e => by have := hO _ e; omega)).trans hL1, (ht.block _ (by omega) (fun e => by have := hO _ e; omega)).trans hK1⟩
  ·rintro B pre x post W hB hBW ⟨hi, hl, hk⟩ hx
   have hB' : D + 2 ≤ B := by omega
   have hlt : D + 1 < W.heap.size := (Array.getElem?_eq_some_iff.1 hl).1
   have hy := run_yield (P := P) (args := #[.string x]) hl (by rw [hrec]; rfl)
   rw [hrec] at hy
   refine ⟨fn, _, assign, body, hy, roundIn_of_wpIn hfn ?_⟩
   have hz : (((#[p] : Array Tmp).zip (#[.string x] : Array Value)).foldl (fun tmps (t, a) => tmps.setIfInBounds t a) a.tmps) = a.tmps.setIfInBounds p (.string x) := by simp
   dsimp only
   rw [hz]
   refine hassign _ x W _ ⟨_, run_beginRound hl (by rw [hrec]), ?_⟩
   have hl2 : (W.putObj (D + 1) (.loop { rec .ready none with state := .busy })).heap[D + 1]? = some (.loop { rec .ready none with state := .busy }) := World.putObj_heap_same hlt
   have hk2 : (W.putObj (D + 1) (.loop { rec .ready none with state := .busy })).heap[D]? = some (.deferred (some [])) := (World.putObj_heap_other (by omega)).trans hk
   have t1 : Turned (OwnB O D B) W (W.putObj (D + 1) (.loop { rec .ready none with state := .busy })) := turned_putObj _ _ _ (hin B _ hB' (.inr rfl))
   refine wpIn_mono (hbody _ B pre x post _ hB' (by simp; omega) (hI B pre _ _ hB' hi t1) hx) ?_
   rintro e a3 W3 hp
   cases e with
   | normal =>
    obtain ⟨ht3, hi3⟩ := hp
    have hn : ∀ k, k = D ∨ k = D + 1 → ¬ ¬ OwnB O D B k := fun k hk h => h (hin B k hB' hk)
    have hl3 := (ht3.block (D + 1) (by simp; omega) (hn _ (.inr rfl))).trans hl2
    have hk3 := (ht3.block D (by simp; omega) (hn _ (.inl rfl))).trans hk2
    have hr := run_endRound (P := P) none hl3
    refine ⟨_, _, hr, rfl, ⟨hI B _ _ _ hB' hi3 (turned_putObj _ _ _ (hin B _ hB' (.inr rfl))), ?_, (World.putObj_heap_other (by omega)).trans hk3⟩, ?_⟩
    ·rw [World.putObj_heap_same (Array.getElem?_eq_some_iff.1 hl3).1, hrec]
     rfl
    ·have tA : Turned (fun k => ¬ OwnB O W1.heap.size B k) W (W.putObj (D + 1) (.loop { rec .ready none with state := .busy })) := turned_putObj _ _ _ (hout B _ (.inr rfl))
     have tB := ht3.mono (W' := fun k => ¬ OwnB O W1.heap.size B k) fun k hk => .inl fun h => hk (hsub B k h)
     exact (tA.trans tB (fun _ e => e) (fun _ e => .inl e)).trans (turned_putObj _ _ _ (hout B _ (.inr rfl))) (fun _ e => e) (fun _ e => .inl e)
   | ret => exact hp.elim
   | exit id => exact hp.elim
   | goto t => exact hp.elim
   | panic ch => exact hp.elim
   | outgrown => exact hp.elim
  ·rintro e W2 ⟨⟨v, rfl⟩, B, hB, hBW, hi, hl, hk⟩
   have hB' : D + 2 ≤ B := by omega
   refine ⟨none, _, by have := run_endLoop (P := P) hl (by rw [hrec]; simp); rw [hrec] at this; exact this, ?_⟩
   have hfin := hdone B (W2.putObj (D + 1) (.loop { rec .ready none with state := .exhausted })) hB' (by simp; omega) (hI B _ _ _ hB' hi (turned_putObj _ _ _ (hin B _ hB' (.inr rfl)))) ((World.putObj_heap_other (by omega)).trans hk)
   rw [hrec] at hfin
   exact hfin
end Go.Proofs.YtglojnmcbochaaaGreatDoor

namespace Go.Proofs.YtglojnmcbochaaaGreatDoor
open Go.RowKit Go.Maps Go.Shelf
set_option linter.unusedVariables false
set_option linter.unusedSimpArgs false

attribute [local go_sem] Oper.semAt_some

def ba (l : List UInt8) : ByteArray := ⟨l.toArray⟩
theorem ba_data (s : ByteArray) : ba s.data.toList = s := rfl
theorem pieces_noIndex {l : List UInt8} (h : Lib.indexByte l 32 = -1) : pieces l = [l] :=
 pieces_none fun c hc e => by
  obtain ⟨i, hi, rfl⟩ := List.mem_iff_getElem.1 hc
  exact Lib.indexByte_none h i (by rw [List.getElem?_eq_getElem hi, e])
theorem pieces_index {l : List UInt8} {k : Nat} (h : Lib.indexByte l 32 = k) : k < l.length ∧ pieces l = l.take k :: pieces (l.drop (k + 1)) := by
 obtain ⟨h1, h2⟩ := Lib.indexByte_some h
 obtain ⟨hk, he⟩ := List.getElem?_eq_some_iff.1 h1
 refine ⟨hk, ?_⟩
 conv => lhs; rw [← List.take_append_drop k l, List.drop_eq_getElem_cons hk, he]
 exact pieces_at _ fun c hc e => by
  obtain ⟨i, hi, rfl⟩ := List.mem_iff_getElem.1 hc
  rw [List.length_take] at hi
  exact h2 i (by omega) (by rw [List.getElem?_eq_getElem (by omega), ← e, List.getElem_take])
theorem ba_take (s : ByteArray) (k : Nat) : ba (s.data.toList.take k) = s.extract 0 k := by
 rw [← ba_data (s.extract 0 k), Lib.extract_data]
 simp
theorem ba_drop (s : ByteArray) (k : Nat) : (s.extract k s.size).data.toList = s.data.toList.drop k := by
 rw [Lib.extract_data, List.take_of_length_le (by rw [List.length_drop, ← Lib.size_eq]; exact Nat.le_refl _)]
structure SpB (w : World) (b1 b2 b3 : Nat) (s : ByteArray) : Prop where
 sep : Blk w b1 9 #[.string ⟨#[32]⟩]
 str : Blk w b2 9 #[.string s]
 save : Blk w b3 3 #[.int .i64 0]
 n12 : b1 ≠ b2
 n23 : b2 ≠ b3
open Classical in
noncomputable def strLeft (w : World) (b : Nat) : Nat := match w.cell? ⟨b, 0, none⟩ with
 | some (.string s) => s.size
 | _ => 0
theorem strLeft_eq {w : World} {b : Nat} {T : TypeId} {s : ByteArray} (h : Blk w b T #[.string s]) : strLeft w b = s.size := by
 unfold strLeft
 rw [h.cell 0]
 rfl
set_option maxRecDepth 100000 in
set_option maxHeartbeats 2000000 in
theorem split1_gives (n : Nat) (hn : 2 ≤ n) (b1 b2 b3 : Nat) (s : ByteArray) (w : World) (h : SpB w b1 b2 b3 s) (hs : s.size ≤ 9223372036854775807) :
  Gives n Tryz.prog 127 #[.pointer (some ⟨b1, 0, none⟩), .pointer (some ⟨b2, 0, none⟩), .pointer (some ⟨b3, 0, none⟩)] (fun k => k = b1 ∨ k = b2 ∨ k = b3) ((pieces s.data.toList).map ba) w := by
 intro l J W hW hrob hstart hround
 have h1n : 1 ≤ n := by omega
 have hb1 : Hid (Blk W b1 9 #[.string ⟨#[32]⟩]) := hZ ((hW.block b1 h.sep.lt (fun e => e)).trans h.sep)
 have hb2 : Hid (Blk W b2 9 #[.string s]) := hZ ((hW.block b2 h.str.lt (fun e => e)).trans h.str)
 have hb3 : Hid (Blk W b3 3 #[.int .i64 0]) := hZ ((hW.block b3 h.save.lt (fun e => e)).trans h.save)
 obtain ⟨_, _, _, n12, n23⟩ := h
 have hJ0 := hZ (hstart W.heap.size W rfl (Turned.refl _ W))
 have hround' := hZ hround
 have hrob' := hZ hrob
 clear hround hrob hstart hW
 obtain ⟨xs, hxs⟩ : ∃ xs, (pieces s.data.toList).map ba = xs := ⟨_, rfl⟩
 rw [hxs] at hround' ⊢
 have hc1 : W.cell? ⟨b1, 0, none⟩ = some (.string ⟨#[32]⟩) := hb1.out.cell 0
 refine callsIn_of_wp Tryz.func127 rfl trivial ?_ rfl
 simp only [Tryz.ntmps127, List.size_toArray, List.length_cons, List.length_nil, Nat.reduceAdd, Nat.reduceSub, Array.replicate_succ, Array.replicate_zero, List.push_toArray, List.append_toArray, zH, zG]
 gi_wp2
 gi_loopw [7, 8] (fun i f wr => ∃ (pre : List ByteArray) (r : ByteArray), xs = pre ++ (pieces r.data.toList).map ba ∧ r.size ≤ s.size ∧ J W.heap.size pre wr ∧ W.heap.size ≤ wr.heap.size ∧ Blk wr b1 9 #[.string ⟨#[32]⟩] ∧ Blk wr b2 9 #[.string r] ∧ Blk wr b3 3 #[.int .i64 0])
  (fun i f wr => strLeft wr b2)
 case atStart =>
  exact ⟨[], s, by rw [← hxs]; rfl, Nat.le_refl _, hJ0.out, Nat.le_refl _, hb1.out, hb2.out, hb3.out⟩
 case round =>
  obtain ⟨pre, r, hx, hr, hJ, hsz, g1, g2, g3⟩ := hrel
  have hm := strLeft_eq g2
  have q1 : wr.cell? ⟨b1, 0, none⟩ = some (.string ⟨#[32]⟩) := g1.cell 0
  have q2 : wr.cell? ⟨b2, 0, none⟩ = some (.string r) := g2.cell 0
  have q3 : wr.cell? ⟨b3, 0, none⟩ = some (.int .i64 0) := g3.cell 0
  have hcall := callsIn_wide (n := n - 1) |>.2 (Any.strings_Index_one Tryz.lays143 r 32 wr)
  rcases Int.lt_or_le (Lib.indexByte r.data.toList 32) 0 with hi | hi
  ·have hi' : Lib.indexByte r.data.toList 32 = -1 := by have := Lib.indexByte_ge r.data.toList 32; omega
   rw [hi'] at hcall
   rw [pieces_noIndex hi'] at hx
   obtain ⟨fn, tmps, assign, body, hy, hR⟩ := hround'.out W.heap.size pre r [] wr (Nat.le_refl _) hsz hJ hx
   gi_wp2_with (refine ⟨trivial, ?_⟩; gi_at_call 90; refine hcall.mono ?_; rintro e w' ⟨rfl, rfl⟩)
   refine hR.mono ?_
   rintro e W3 ⟨rfl, hJ3, hk3⟩
   gi_wp2
   go_end0
   exact ⟨⟨_, rfl⟩, W.heap.size, Nat.le_refl _, Nat.le_trans hsz hk3.size, by rw [hx]; exact hJ3⟩
  ·obtain ⟨k, hk⟩ := Int.eq_ofNat_of_zero_le hi
   rw [hk] at hcall
   obtain ⟨hkl, hp⟩ := pieces_index hk
   rw [hp] at hx
   have hks : k < r.size := by
    have : r.data.toList.length = r.size := (Lib.size_eq r).symm
    omega
   have hk2 : k + 1 ≤ 9223372036854775807 := by omega
   have hk3 : k + 1 ≤ r.size := hks
   have hk4 : k ≤ r.size := by omega
   rw [zF, ba_take] at hx
   obtain ⟨fn, tmps, assign, body, hy, hR⟩ := hround'.out W.heap.size pre (r.extract 0 k) _ wr (Nat.le_refl _) hsz hJ hx
   gi_wp2_with (refine ⟨trivial, ?_⟩; gi_at_call 90; refine hcall.mono ?_; rintro e w' ⟨rfl, rfl⟩)
   refine hR.mono ?_
   rintro e W3 ⟨rfl, hJ3, hkp⟩
   have f1 : Blk W3 b1 9 #[.string ⟨#[32]⟩] := (hkp.block b1 g1.lt (fun h => h (.inl (.inl rfl)))).trans g1
   have f2 : Blk W3 b2 9 #[.string r] := (hkp.block b2 g2.lt (fun h => h (.inl (.inr (.inl rfl))))).trans g2
   have f3 : Blk W3 b3 3 #[.int .i64 0] := (hkp.block b3 g3.lt (fun h => h (.inl (.inr (.inr rfl))))).trans g3
   have p1 : W3.cell? ⟨b1, 0, none⟩ = some (.string ⟨#[32]⟩) := f1.cell 0
   have p2 : W3.cell? ⟨b2, 0, none⟩ = some (.string r) := f2.cell 0
   have p4 := f2.frozen 0
   gi_wp2
   have t3 : Turned (OwnB (fun k => k = b1 ∨ k = b2 ∨ k = b3) W.heap.size W.heap.size) W3 (W3.setCell ⟨b2, 0, none⟩ (.string (r.extract (k + 1) r.size))) := (Turned.refl _ W3).setCell (.inl (.inl (.inr (.inl rfl)))) _
   have d2 : Blk (W3.setCell ⟨b2, 0, none⟩ (.string (r.extract (k + 1) r.size))) b2 9 #[.string (r.extract (k + 1) r.size)] := f2.set_ 0 _
   go_roundw
   case rel =>
    refine ⟨pre ++ [r.extract 0 k], r.extract (k + 1) r.size, ?_, ?_, hrob'.out _ _ _ _ (Nat.le_refl _) hJ3 t3, Nat.le_trans hsz (Nat.le_trans hkp.size t3.size), ?_, d2, ?_⟩
    ·rw [hx, ba_drop, List.append_assoc]
     rfl
    ·rw [Lib.size_eq, ba_drop, List.length_drop, ← Lib.size_eq]
     omega
    ·exact (Below.heap_setCell W3 _ _ b1 (fun e => n12 e)).trans f1
    ·exact (Below.heap_setCell W3 _ _ b3 (fun e => n23 e.symm)).trans f3
   case measure =>
    rw [hm, strLeft_eq d2, Lib.size_eq, ba_drop, List.length_drop, ← Lib.size_eq]
    omega
end Go.Proofs.YtglojnmcbochaaaGreatDoor

namespace Go.Proofs.YtglojnmcbochaaaGreatDoor
open Go.RowKit Go.Maps Go.Shelf
set_option linter.unusedVariables false
set_option linter.unusedSimpArgs false

attribute [local go_sem] Oper.semAt_some

def cutW (w : World) (s : ByteArray) : World := ((w.alloc (.cells #[.string s] 9)).alloc (.cells #[.string ⟨#[32]⟩] 9)).alloc (.cells #[.int .i64 0] 3)
theorem splitSeq_any (s : ByteArray) (w : World) : Calls Tryz.prog 97 #[.string s, .string ⟨#[32]⟩, .int .i64 0] w fun e w' => e = .returned (.func (.func 127) #[] #[.pointer (some ⟨w.heap.size + 1, 0, none⟩), .pointer (some ⟨w.heap.size, 0, none⟩), .pointer (some ⟨w.heap.size + 2, 0, none⟩)]) ∧ w' = cutW w s := by
 go_enter Tryz.func97, Tryz.ntmps97
 go_wp2
 go_ret
 exact ⟨by simp, rfl⟩
theorem splitSeqs_any (s : ByteArray) (w : World) : Calls Tryz.prog 62 #[.string s, .string ⟨#[32]⟩] w fun e w' => e = .returned (.func (.func 127) #[] #[.pointer (some ⟨w.heap.size + 1, 0, none⟩), .pointer (some ⟨w.heap.size, 0, none⟩), .pointer (some ⟨w.heap.size + 2, 0, none⟩)]) ∧ w' = cutW w s := by
 go_enter Tryz.func62, Tryz.ntmps62
 go_wp2_with (go_at_call 97; refine (splitSeq_any s w).mono ?_; rintro e w' ⟨rfl, rfl⟩)
 go_ret
 exact ⟨rfl, rfl⟩
theorem cutW_size (w : World) (s : ByteArray) : (cutW w s).heap.size = w.heap.size + 3 := by simp [cutW]
theorem cutW_turned (w : World) (s : ByteArray) : Turned (fun _ => False) w (cutW w s) := (((Turned.refl _ w).alloc _).alloc _).alloc _
theorem cutW_boxes (w : World) (s : ByteArray) : SpB (cutW w s) (w.heap.size + 1) w.heap.size (w.heap.size + 2) s :=
 ⟨(Blk.new_at _ _ _ (by simp)).alloc _, ((Blk.new w _ _).alloc _).alloc _, Blk.new_at _ _ _ (by simp), by omega, by omega⟩
theorem roundIn_any {n m : Nat} {P : Program} {l l' : Nat} {f : FuncId} {tmps : Array Value} {assign body : Code} {w : World} {R : Ending → World → Prop} (h : RoundIn Fence.wide n P l f tmps assign body w R) : RoundIn (Fence.wide.inRound l') m P l f tmps assign body w R :=
 ⟨h.1, fun c cs _ => h.2 c cs (room_wide _)⟩
def fullBA (x : ByteArray) : Bool := !x.data.toList.isEmpty
theorem fullBA_list {x : ByteArray} (h : fullBA x = true) : (x.toList == ([] : List UInt8)) = false := by
 unfold fullBA at h
 rw [Lib.toList_data]
 cases hx : x.data.toList with
 | nil => rw [hx] at h; cases h
 | cons c l => rfl
theorem fullBA_nil {x : ByteArray} (h : ¬ fullBA x = true) : (x.toList == ([] : List UInt8)) = true := by
 unfold fullBA at h
 rw [Lib.toList_data]
 cases hx : x.data.toList with
 | nil => rfl
 | cons c l => rw [hx] at h; exact absurd rfl h
theorem words_ba (s : ByteArray) : (wordsL s.data.toList).map ba = ((pieces s.data.toList).map ba).filter fullBA := by
 unfold wordsL
 rw [List.filter_map]
 congr 1
theorem words1_gives (n : Nat) (hn : 6 ≤ n) (b : Nat) (s : ByteArray) (w : World) (h : Blk w b 9 #[.string s]) (hs : s.size ≤ 9223372036854775807) :
  Gives n Tryz.prog 61 #[.pointer (some ⟨b, 0, none⟩)] (fun k => k = b) ((wordsL s.data.toList).map ba) w := by
 intro l J W hW hrob hstart hround
 have hb : Blk W b 9 #[.string s] := (hW.block b h.lt (fun e => e)).trans h
 have hbl := hb.lt
 have hb0 : W.cell? ⟨b, 0, none⟩ = some (.string s) := hb.cell 0
 have hrob' := hZ hrob
 have hstart' := hZ hstart
 have hround' := hZ hround
 rw [words_ba] at hround' ⊢
 obtain ⟨ps, hps⟩ : ∃ ps, (pieces s.data.toList).map ba = ps := ⟨_, rfl⟩
 rw [hps] at hround' ⊢
 clear hrob hstart hround hW h
 obtain ⟨Wy, hWy⟩ : ∃ Wy, W.alloc (.cells #[.func (.yield l) #[] #[]] 36) = Wy := ⟨_, rfl⟩
 have hy0 : Blk Wy W.heap.size 36 #[.func (.yield l) #[] #[]] := by rw [← hWy]; exact Blk.new W _ _
 have hyt : Turned (fun _ => False) W Wy := by rw [← hWy]; exact (Turned.refl _ W).alloc _
 have hys : Wy.heap.size = W.heap.size + 1 := by rw [← hWy]; simp
 have hyb : Wy.cell? ⟨b, 0, none⟩ = some (.string s) := by rw [← hWy]; exact (hb.alloc _).cell 0
 have hcall := callsIn_wide (n := n - 1) |>.2 (splitSeqs_any s Wy)
 refine callsIn_of_wp_marks Tryz.func61 rfl trivial ?_ rfl
 simp only [Tryz.ntmps61, List.size_toArray, List.length_cons, List.length_nil, Nat.reduceAdd, Nat.reduceSub, Array.replicate_succ, Array.replicate_zero, List.push_toArray, List.append_toArray, zH, zG]
 have h1 : 1 ≤ n := by omega
 gi_wp2_with (refine ⟨trivial, ?_⟩; gi_at_call 62; refine hcall.mono ?_; rintro e w' ⟨rfl, rfl⟩)
 have hbx := cutW_boxes Wy s
 have hcs := cutW_size Wy s
 have hct := cutW_turned Wy s
 have hya : Blk (cutW Wy s) W.heap.size 36 #[.func (.yield l) #[] #[]] := (hct.block _ hy0.lt (fun e => e)).trans hy0
 rw [hys] at hbx hcs
 generalize cutW Wy s = Wa at hbx hcs hct hya ⊢
 have hW1 : W.heap.size + 1 + 3 = Wa.heap.size := hcs.symm
 have hg := split1_gives (n - 1) (by omega) _ _ _ s Wa hbx hs
 rw [hps] at hg
 have hsub : ∀ B k, Wa.heap.size + 2 ≤ B → OwnB (fun k => k = W.heap.size + 1 + 1 ∨ k = W.heap.size + 1 ∨ k = W.heap.size + 1 + 2) Wa.heap.size B k → OwnB (fun k => k = b) W.heap.size B k := fun B k hB h => by
  rcases h with h | h
  ·exact .inr (by omega)
  ·exact .inr (by omega)
 have hyn : ∀ B, ¬ OwnB (fun k => k = W.heap.size + 1 + 1 ∨ k = W.heap.size + 1 ∨ k = W.heap.size + 1 + 2) Wa.heap.size B W.heap.size := fun B h => by
  rcases h with h | h <;> omega
 refine wpIn_range_gives h1 (gf := 127) (lb := #[.pointer (some ⟨W.heap.size + 1 + 1, 0, none⟩), .pointer (some ⟨W.heap.size + 1, 0, none⟩), .pointer (some ⟨W.heap.size + 1 + 2, 0, none⟩)]) rfl (enters_of Tryz.func127 (by kernel_rfl) rfl)
  hg (fun k hk => by omega)
  (fun B pre A => J B (pre.filter fullBA) A ∧ Blk A W.heap.size 36 #[.func (.yield l) #[] #[]])
  ?rob ?start (fun x => { tmps := #[.func (.yield l) #[] #[], .pointer (some ⟨b, 0, none⟩), .pointer (some ⟨W.heap.size, 0, none⟩), .string x, .string s, .func (.func 127) #[] #[.pointer (some ⟨W.heap.size + 1 + 1, 0, none⟩), .pointer (some ⟨W.heap.size + 1, 0, none⟩), .pointer (some ⟨W.heap.size + 1 + 2, 0, none⟩)], .string x, undef, undef, undef, undef, undef, undef, undef, undef], defers := [] }) ?assign ?body ?done
 case rob =>
  rintro B pre A A' hB ⟨hJ, hy⟩ ht
  exact ⟨hrob'.out B _ A A' (by omega) hJ (ht.mono fun k hk => .inl (hsub B k hB hk)), (ht.block _ hy.lt (hyn B)).trans hy⟩
 case start =>
  intro B A hB hB2 ht
  refine ⟨hstart'.out B A hB ((hyt.and_ hct).trans ht (fun _ e => e.elim) (fun k hk => .inr (by omega))), (ht.block _ hya.lt (by omega)).trans hya⟩
 case assign =>
  intro l2 x W2 K hK
  gi_wp2
  exact hK
 case body =>
  rintro l2 B pre x post W2 hB hBW ⟨hJ, hy⟩ hx
  have hyc : W2.cell? ⟨W.heap.size, 0, none⟩ = some (.func (.yield l) #[] #[]) := hy.cell 0
  have h2n : 1 ≤ n - 1 - 1 := by omega
  by_cases hf : fullBA x = true
  ·have hxe : (x.toList == ([] : List UInt8)) = false := fullBA_list hf
   have hx' : ps.filter fullBA = pre.filter fullBA ++ x :: post.filter fullBA := by
    rw [hx, List.filter_append, List.filter_cons, if_pos hf]
   obtain ⟨fn, tmps, assign, body, hyr, hR⟩ := hround'.out B _ x _ W2 (by omega) hBW hJ hx'
   have hR' := roundIn_any (l' := l2) (m := n - 1 - 1 - 1) hR
   gi_wp2
   refine hR'.mono ?_
   rintro e W3 ⟨rfl, hJ3, hk3⟩
   gi_wp2
   refine ⟨hk3.mono fun k hk => .inl fun h => hk (hsub B k hB h), ?_, ?_⟩
   ·rw [List.filter_append, List.filter_cons, if_pos hf]
    exact hJ3
   ·exact (hk3.block _ hy.lt (fun h => h (.inr (by omega)))).trans hy
  ·have hxe : (x.toList == ([] : List UInt8)) = true := fullBA_nil hf
   gi_wp2
   refine ⟨fun _ h => (by cases h), ?_⟩
   gi_wp2
   refine ⟨Turned.refl _ _, ?_, hy⟩
   rw [List.filter_append, List.filter_cons, if_neg hf]
   simpa using hJ
 case done =>
  rintro B W2 hB hBW ⟨hJ, hy⟩ hK
  gi_wp2
  refine ⟨by simp, .inl ⟨_, _, rfl, run_takeDeferred hK, ?_⟩⟩
  refine ⟨_, results_none rfl _ _ _, ⟨_, rfl⟩, B, by omega, by simpa using hBW, hrob'.out B _ _ _ (by omega) hJ (turned_putObj _ _ _ (.inr (by omega)))⟩
end Go.Proofs.YtglojnmcbochaaaGreatDoor

namespace Go.Proofs.YtglojnmcbochaaaGreatDoor
open Go.RowKit Go.Maps
set_option linter.unusedVariables false

section
variable {P : Program} {ops : Array Oper} {Q : Exit → Act → World → Prop} {md : Region.Mode} {S : World → Prop}
theorem rowsIn_of {n l : Nat} {row : String} {args : Array Value} {w : World} {R : Value → World → Prop} (h : Rows P row args w R) : RowsIn (Fence.wide.inRound l) n P row args w R :=
 fun c cs _ => let ⟨v, w', r, s⟩ := h c cs; ⟨v, w', r, stepsIn_wide.2 s⟩
theorem oper_in {l n : Nat} {o : Oper} {a : Act} {w : World} {K : Act → World → Prop} (hd : ∀ c, o.op ≠ .defer c) (h : o.wp P a w K Q) : o.wpIn (Fence.wide.inRound l) n P a w K Q := by
 refine ⟨fun f _ => trivial, ?_⟩
 unfold Oper.wp at h
 rw [show (Fence.wide.inRound l).round = some l from rfl, Oper.semAt_some l _ _ hd]
 have hz : ∀ {p : Prop}, (Fence.wide.inRound l).depth.isSome = true → p := fun h => by cases h
 cases hr : (execOp a.eval o).run P w with
 | ok x w' =>
  rw [hr] at h
  cases x with
  | value v => exact h
  | skip => exact h
  | «defer» d => exact h
  | enter f args =>
   have h' : CallsIn Fence.wide (n - 1) P f args w' _ := callsIn_wide.2 h
   exact ⟨hz, h'⟩
  | row r args => exact ⟨hz, rowsIn_of h⟩
  | _ => exact h.elim
 | halt x w' =>
  rw [hr] at h
  cases x <;> exact h
theorem any_in {l n : Nat} (hd : ∀ (i : Nat) (o : Oper), ops[i]? = some o → ∀ c, o.op ≠ .defer c) (hL : ¬ LetsOut Q) : ∀ (fuel : Nat) (listed : Array Bool) (a : Act) (w : World), wpAny P md ops Q fuel listed a w → wpAnyIn (Fence.wide.inRound l) n P md ops Q fuel listed a w
 | 0, _, _, _, h => h
 | fuel + 1, listed, a, w, h => ⟨h.1, fun i hi => by
  have h2 := h.2 i hi
  unfold wpOp at h2
  unfold wpOpIn
  cases ho : ops[i]? with
  | none => rw [ho] at h2; exact any_in hd hL fuel _ _ _ h2
  | some o =>
   rw [ho] at h2
   simp only at h2 ⊢
   split
   ·rename_i hw
    rw [if_pos hw] at h2
    rcases h2 with h2 | h2
    ·exact oper_in (hd i o ho) (Oper.wp_mono (fun a' w' h' => any_in hd hL fuel _ _ _ h') h2)
    ·exact absurd h2.2 hL
   ·rename_i hw
    rw [if_neg hw] at h2
    exact ⟨fun _ _ => trivial, any_in hd hL fuel _ _ _ h2⟩⟩
def noDefer (l : List Oper) : Bool := l.all fun o => match o.op with
 | .defer _ => false
 | _ => true
theorem noDefer_spec {l : List Oper} (h : noDefer l = true) (i : Nat) (o : Oper) (ho : l.toArray[i]? = some o) : ∀ c, o.op ≠ .defer c := by
 intro c e
 have hm : o ∈ l := by
  have : l[i]? = some o := by simpa using ho
  exact List.mem_of_getElem? this
 have := (List.all_eq_true.1 h) o hm
 rw [e] at this
 cases this
theorem wpIn_region_ts {id l0 n : Nat} {a : Act} {w : World} {l : List Oper} (S : World → Prop) (t : Ts Nat) (hm : P.follows .mixedOrders = true) (hB : regTsB l t = true) (hD : noDefer l = true) (hL : ¬ LetsOut Q)
  (hQ : ∀ c a d v w, Q (.panic c) (Act.put a (some d) v) w → Q (.panic c) a w)
  (hh : wpTs P l.toArray Q S (t.map fun i => l[i]?) a w.drew) : (Code.region id l.toArray true).wpIn (Fence.wide.inRound l0) n P Q a w := by
 simp only [regTsB, zD, zE] at hB
 obtain ⟨⟨h1, h3⟩, h4⟩ := hB
 refine wpIn_region_any hm (any_in (noDefer_spec hD) hL _ _ _ _ (wpAny_of_held (S := S) _ _ _ _ ?_))
 rw [← h3]
 have h5 : wpAnyH P .any l.toArray Q S t.len (Array.replicate l.toArray.size false) a w.drew := wpAnyH_ts h1 hQ t _ a w.drew h4 (by simpa using hh)
 rw [h3] at h5 ⊢
 exact h5
end
end Go.Proofs.YtglojnmcbochaaaGreatDoor

