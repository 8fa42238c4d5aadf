/-
  ytglojnmcbochaaagreatdoor: laws and walks on the road to LinesTales, joined: Ifn Splt. Conditions stand at each theorem.
-/
import Derived.Test.YtglojnmcbochaaaGreatDoorTSec
import Derived.RangeFuncNested
import Derived.RangeFuncBound
import Derived.RangeFuncCalls
import Derived.RangeFuncLeaves
import Derived.Shelf.Abstract
import Derived.Shelf.RegionOpen
import Derived.OwnWalkIn
import Derived.TacticsInMore
import Derived.LoopNIn
import Derived.LoopIn
import Derived.Test.YtglojnmcbochaaaGreatDoorTLnsP
import Derived.Test.YtglojnmcbochaaaGreatDoorTShf
import Derived.Lib.IndexLaws
namespace Go.Proofs.YtglojnmcbochaaaGreatDoor
open Go.RowKit Go.Maps Go.Shelf
set_option linter.unusedVariables false

/-- The function's own blocks: those of O, and those laid between its call (at a heap of the size s) and the first round (B). -/
def OwnB (O : Nat → Prop) (s B : Nat) (k : Nat) : Prop := O k ∨ (s ≤ k ∧ k < B)
/-- A FUNCTION GIVES texts, one after the other: whatever J the rounds carry that does not speak of the function's own blocks, if each round says 'go on' and leaves those blocks alone, all come, and J holds at the end. -/
def Gives (n : Nat) (P : Program) (g : Nat) (lb : Array Value) (O : Nat → Prop) (xs : List ByteArray) (w : World) : Prop :=
  ∀ (l : Nat) (J : Nat → List ByteArray → World → Prop) (W : World), Turned (fun _ => False) w W →
    (∀ B pre A A', W.heap.size ≤ B → J B pre A → Turned (OwnB O W.heap.size B) A A' → J B pre A') →
    (∀ B A, A.heap.size = B → Turned O W A → J B [] A) →
    (∀ B pre x post A, W.heap.size ≤ B → B ≤ A.heap.size → J B pre A → xs = pre ++ x :: post → YieldAt Fence.wide (n - 1) P l #[.string x] A fun e A' =>
      e = .returned (.bool true) ∧ J B (pre ++ [x]) A' ∧ Turned (fun k => ¬ OwnB O W.heap.size B k) A A') →
    CallsIn Fence.wide n P g (#[.func (.yield l) #[] #[]] ++ lb) W fun e A' => (∃ v, e = .returned v) ∧ ∃ B, W.heap.size ≤ B ∧ B ≤ A'.heap.size ∧ J B xs A'

theorem turned_putObj (W : World) (l : Nat) (o : Obj) {T : Nat → Prop} (h : T l) : Turned T W (W.putObj l o) :=
  ⟨rfl, rfl, rfl, by simp, fun k _ hk => World.putObj_heap_other (fun e => hk (e ▸ h))⟩

/-- How a round's body is left: off its end alone. -/
def givePost (T : Nat → Prop) (I : World → Prop) (W : World) : Exit → Act → World → Prop
  | .normal, _, W' => Turned T W W' ∧ I W'
  | _, _, _ => False

variable {n : Nat} {P : Program}
/-- THE LOOP over a function that gives. -/
theorem wpIn_range_gives {g : Operand} {p : Tmp} {assign body : Code} {Q : Exit → Act → World → Prop} {a : Act} {w : World}
    (h1 : 1 ≤ n) {gf : Nat} {lb : Array Value} (hg : a.eval g = .func (.func gf) #[] lb) (eg : ∀ args w, (callFunc gf args).run P w = .ok (.enter gf args) w)
    {O : Nat → Prop} {xs : List ByteArray} (hseq : Gives (n - 1) P gf lb O xs w) (hO : ∀ k, O k → k < w.heap.size)
    (I : Nat → List ByteArray → World → Prop)
    (hI : ∀ B pre A A', w.heap.size + 2 ≤ B → I B pre A → Turned (OwnB O w.heap.size B) A A' → I B pre A')
    (h0 : ∀ B A, A.heap.size = B → w.heap.size + 2 ≤ B → Turned O w A → I B [] A) (a₁ : ByteArray → Act)
    (hassign : ∀ (l : Nat) (x : ByteArray) (W : World) (K : Act → World → Prop), K (a₁ x) W →
      assign.wpIn (Fence.wide.inRound l) (n - 1 - 1) P (Exit.then K (fun _ _ _ => False)) { tmps := a.tmps.setIfInBounds p (.string x), defers := [] } W)
    (hbody : ∀ (l B : Nat) (pre : List ByteArray) (x : ByteArray) (post : List ByteArray) (W : World), w.heap.size + 2 ≤ B → B ≤ W.heap.size → I B pre W → xs = pre ++ x :: post →
      body.wpIn (Fence.wide.inRound l) (n - 1 - 1) P (givePost (fun k => ¬ OwnB O w.heap.size B k) (I B (pre ++ [x])) W) (a₁ x) W)
    (hdone : ∀ (B : Nat) (W : World), w.heap.size + 2 ≤ B → B ≤ W.heap.size → I B xs W → W.heap[w.heap.size]? = some (.deferred (some [])) → Q .normal { a with defers := { target := .collected w.heap.size, args := #[] } :: a.defers } W) :
    (Code.rangeFunc g #[p] assign body).wpIn Fence.wide n P Q a w := by
  refine wpIn_rangeFunc ?_
  intro fn hfn
  rw [show Fence.wide.round = none from rfl]
  obtain ⟨D, hD⟩ : ∃ D, w.heap.size = D := ⟨_, rfl⟩
  rw [hD] at hI h0 hbody hdone hO
  obtain ⟨rec, hrec⟩ : ∃ rec : LoopState → Option Code → Loop, rec = fun st pe => { state := st, pending := pe, fn, tmps := a.tmps, params := #[p], assign, body, defers := D } := ⟨_, rfl⟩
  obtain ⟨W1, hW1⟩ : ∃ W1, (w.alloc (.deferred (some []))).alloc (.loop (rec .ready none)) = W1 := ⟨_, rfl⟩
  have hs1 : W1.heap.size = D + 2 := by rw [← hW1]; simp [hD]
  have hL1 : W1.heap[D + 1]? = some (.loop (rec .ready none)) := by
    have := World.alloc_heap_new (w.alloc (.deferred (some []))) (.loop (rec .ready none))
    rw [World.size_alloc, hD] at this
    rw [← hW1]; exact this
  have hK1 : W1.heap[D]? = some (.deferred (some [])) := by
    rw [← hW1, ← hD]; exact (Below.heap_alloc _ _ _ (by simp)).trans (World.alloc_heap_new w _)
  have ht1 : Turned (fun _ => False) w W1 := by
    rw [← hW1]; exact ((Turned.refl _ w).alloc _).alloc _
  have hin : ∀ B k, D + 2 ≤ B → k = D ∨ k = D + 1 → OwnB O D B k := fun B k hB hk => .inr (by omega)
  have hout : ∀ B k, k = D ∨ k = D + 1 → ¬ OwnB O W1.heap.size B k := fun B k hk h => by
    rcases h with h | h
    · have := hO k h; omega
    · omega
  have hsub : ∀ B k, OwnB O W1.heap.size B k → OwnB O D B k := fun B k h => by
    rcases h with h | h
    · exact .inl h
    · exact .inr (by omega)
  refine ⟨D + 1, [{ target := .collected D, args := #[] }], W1, { target := .fn (.func gf) lb, args := #[.func (.yield (D + 1)) #[] #[]] }, W1, gf,
    #[.func (.yield (D + 1)) #[] #[]] ++ lb, W1, ?_, ?_, ?_, ?_, fun _ => h1, ?_⟩
  · have := run_enterLoop_outer (P := P) (w := w) fn a.tmps #[p] assign body
    rw [hD] at this
    rw [← hW1, hrec]; exact this
  · simp only [resolve, hg]
    simp [go_sem]
  · intro f' _; trivial
  · simp [invoke, go_sem, eg]
  · refine (hseq (D + 1)
      (fun B pre A => I B pre A ∧ A.heap[D + 1]? = some (.loop (rec .ready none)) ∧ A.heap[D]? = some (.deferred (some [])))
      W1 ht1 ?_ ?_ ?_).mono ?_
    · rintro B pre A A' hB ⟨hi, hl, hk⟩ ht
      have hDl := (Array.getElem?_eq_some_iff.1 hl).1
      exact ⟨hI B pre A A' (by omega) hi (ht.mono fun k hk => .inl (hsub B k hk)), (ht.block _ hDl (hout B _ (.inr rfl))).trans hl, (ht.block _ (by omega) (hout B _ (.inl rfl))).trans hk⟩
    · intro B A hB ht
      refine ⟨h0 B A hB (by have := ht.size; omega) (ht1.trans ht (fun _ e => e.elim) (fun _ e => .inl e)), (ht.block _ (by omega) (fun e => by have := hO _ e; omega)).trans hL1, (ht.block _ (by omega) (fun e => by have := hO _ e; omega)).trans hK1⟩
    · rintro B pre x post W hB hBW ⟨hi, hl, hk⟩ hx
      have hB' : D + 2 ≤ B := by omega
      have hlt : D + 1 < W.heap.size := (Array.getElem?_eq_some_iff.1 hl).1
      have hy := run_yield (P := P) (args := #[.string x]) hl (by rw [hrec]; rfl)
      rw [hrec] at hy
      refine ⟨fn, _, assign, body, hy, roundIn_of_wpIn hfn ?_⟩
      have hz : (((#[p] : Array Tmp).zip (#[.string x] : Array Value)).foldl (fun tmps (t, a) => tmps.setIfInBounds t a) a.tmps) = a.tmps.setIfInBounds p (.string x) := by simp
      dsimp only
      rw [hz]
      refine hassign _ x W _ ⟨_, run_beginRound hl (by rw [hrec]), ?_⟩
      have hl2 : (W.putObj (D + 1) (.loop { rec .ready none with state := .busy })).heap[D + 1]? = some (.loop { rec .ready none with state := .busy }) := World.putObj_heap_same hlt
      have hk2 : (W.putObj (D + 1) (.loop { rec .ready none with state := .busy })).heap[D]? = some (.deferred (some [])) := (World.putObj_heap_other (by omega)).trans hk
      have t1 : Turned (OwnB O D B) W (W.putObj (D + 1) (.loop { rec .ready none with state := .busy })) := turned_putObj _ _ _ (hin B _ hB' (.inr rfl))
      refine wpIn_mono (hbody _ B pre x post _ hB' (by simp; omega) (hI B pre _ _ hB' hi t1) hx) ?_
      rintro e a3 W3 hp
      cases e with
      | normal =>
        obtain ⟨ht3, hi3⟩ := hp
        have hn : ∀ k, k = D ∨ k = D + 1 → ¬ ¬ OwnB O D B k := fun k hk h => h (hin B k hB' hk)
        have hl3 := (ht3.block (D + 1) (by simp; omega) (hn _ (.inr rfl))).trans hl2
        have hk3 := (ht3.block D (by simp; omega) (hn _ (.inl rfl))).trans hk2
        have hr := run_endRound (P := P) none hl3
        refine ⟨_, _, hr, rfl, ⟨hI B _ _ _ hB' hi3 (turned_putObj _ _ _ (hin B _ hB' (.inr rfl))), ?_, (World.putObj_heap_other (by omega)).trans hk3⟩, ?_⟩
        · rw [World.putObj_heap_same (Array.getElem?_eq_some_iff.1 hl3).1, hrec]
          rfl
        · have tA : Turned (fun k => ¬ OwnB O W1.heap.size B k) W (W.putObj (D + 1) (.loop { rec .ready none with state := .busy })) := turned_putObj _ _ _ (hout B _ (.inr rfl))
          have tB := ht3.mono (W' := fun k => ¬ OwnB O W1.heap.size B k) fun k hk => .inl fun h => hk (hsub B k h)
          exact (tA.trans tB (fun _ e => e) (fun _ e => .inl e)).trans (turned_putObj _ _ _ (hout B _ (.inr rfl))) (fun _ e => e) (fun _ e => .inl e)
      | ret => exact hp.elim
      | exit id => exact hp.elim
      | goto t => exact hp.elim
      | panic ch => exact hp.elim
      | outgrown => exact hp.elim
    · rintro e W2 ⟨⟨v, rfl⟩, B, hB, hBW, hi, hl, hk⟩
      have hB' : D + 2 ≤ B := by omega
      refine ⟨none, _, by have := run_endLoop (P := P) hl (by rw [hrec]; simp); rw [hrec] at this; exact this, ?_⟩
      have hfin := hdone B (W2.putObj (D + 1) (.loop { rec .ready none with state := .exhausted })) hB' (by simp; omega) (hI B _ _ _ hB' hi (turned_putObj _ _ _ (hin B _ hB' (.inr rfl)))) ((World.putObj_heap_other (by omega)).trans hk)
      rw [hrec] at hfin
      exact hfin
end Go.Proofs.YtglojnmcbochaaaGreatDoor

namespace Go.Proofs.YtglojnmcbochaaaGreatDoor
open Go.RowKit Go.Maps Go.Shelf
set_option linter.unusedVariables false
set_option linter.unusedSimpArgs false

attribute [local go_sem] Oper.semAt_some

def ba (l : List UInt8) : ByteArray := ⟨l.toArray⟩
theorem ba_data (s : ByteArray) : ba s.data.toList = s := rfl
theorem pieces_noIndex {l : List UInt8} (h : Lib.indexByte l 32 = -1) : pieces l = [l] :=
  pieces_none fun c hc e => by
    obtain ⟨i, hi, rfl⟩ := List.mem_iff_getElem.1 hc
    exact Lib.indexByte_none h i (by rw [List.getElem?_eq_getElem hi, e])
theorem pieces_index {l : List UInt8} {k : Nat} (h : Lib.indexByte l 32 = k) : k < l.length ∧ pieces l = l.take k :: pieces (l.drop (k + 1)) := by
  obtain ⟨h1, h2⟩ := Lib.indexByte_some h
  obtain ⟨hk, he⟩ := List.getElem?_eq_some_iff.1 h1
  refine ⟨hk, ?_⟩
  conv => lhs; rw [← List.take_append_drop k l, List.drop_eq_getElem_cons hk, he]
  exact pieces_at _ fun c hc e => by
    obtain ⟨i, hi, rfl⟩ := List.mem_iff_getElem.1 hc
    rw [List.length_take] at hi
    exact h2 i (by omega) (by rw [List.getElem?_eq_getElem (by omega), ← e, List.getElem_take])
theorem ba_take (s : ByteArray) (k : Nat) : ba (s.data.toList.take k) = s.extract 0 k := by
  rw [← ba_data (s.extract 0 k), Lib.extract_data]
  simp
theorem ba_drop (s : ByteArray) (k : Nat) : (s.extract k s.size).data.toList = s.data.toList.drop k := by
  rw [Lib.extract_data, List.take_of_length_le (by rw [List.length_drop, ← Lib.size_eq]; exact Nat.le_refl _)]
/-- The three boxes that the function keeps. -/
structure SpB (w : World) (b1 b2 b3 : Nat) (s : ByteArray) : Prop where
  sep : Blk w b1 9 #[.string ⟨#[32]⟩]
  str : Blk w b2 9 #[.string s]
  save : Blk w b3 3 #[.int .i64 0]
  n12 : b1 ≠ b2
  n23 : b2 ≠ b3
open Classical in
/-- How long what is left is: the loop's measure. -/
noncomputable def strLeft (w : World) (b : Nat) : Nat := match w.cell? ⟨b, 0, none⟩ with
  | some (.string s) => s.size
  | _ => 0
theorem strLeft_eq {w : World} {b : Nat} {T : TypeId} {s : ByteArray} (h : Blk w b T #[.string s]) : strLeft w b = s.size := by
  unfold strLeft
  rw [h.cell 0]
  rfl
set_option maxRecDepth 100000 in
set_option maxHeartbeats 2000000 in
theorem split1_gives (n : Nat) (hn : 2 ≤ n) (b1 b2 b3 : Nat) (s : ByteArray) (w : World) (h : SpB w b1 b2 b3 s) (hs : s.size ≤ 9223372036854775807) :
    Gives n Tryz.prog 127 #[.pointer (some ⟨b1, 0, none⟩), .pointer (some ⟨b2, 0, none⟩), .pointer (some ⟨b3, 0, none⟩)] (fun k => k = b1 ∨ k = b2 ∨ k = b3) ((pieces s.data.toList).map ba) w := by
  intro l J W hW hrob hstart hround
  have h1n : 1 ≤ n := by omega
  have hb1 : Hid (Blk W b1 9 #[.string ⟨#[32]⟩]) := Lib.hid ((hW.block b1 h.sep.lt (fun e => e)).trans h.sep)
  have hb2 : Hid (Blk W b2 9 #[.string s]) := Lib.hid ((hW.block b2 h.str.lt (fun e => e)).trans h.str)
  have hb3 : Hid (Blk W b3 3 #[.int .i64 0]) := Lib.hid ((hW.block b3 h.save.lt (fun e => e)).trans h.save)
  obtain ⟨_, _, _, n12, n23⟩ := h
  have hJ0 := Lib.hid (hstart W.heap.size W rfl (Turned.refl _ W))
  have hround' := Lib.hid hround
  have hrob' := Lib.hid hrob
  clear hround hrob hstart hW
  obtain ⟨xs, hxs⟩ : ∃ xs, (pieces s.data.toList).map ba = xs := ⟨_, rfl⟩
  rw [hxs] at hround' ⊢
  have hc1 : W.cell? ⟨b1, 0, none⟩ = some (.string ⟨#[32]⟩) := hb1.out.cell 0
  refine callsIn_of_wp Tryz.func127 rfl trivial ?_ rfl
  simp only [Tryz.ntmps127, List.size_toArray, List.length_cons, List.length_nil, Nat.reduceAdd, Nat.reduceSub, Array.replicate_succ, Array.replicate_zero, List.push_toArray, List.append_toArray, List.nil_append, List.cons_append]
  gi_wp2
  gi_loopw [7, 8] (fun i f wr => ∃ (pre : List ByteArray) (r : ByteArray), xs = pre ++ (pieces r.data.toList).map ba ∧ r.size ≤ s.size ∧ J W.heap.size pre wr ∧ W.heap.size ≤ wr.heap.size ∧ Blk wr b1 9 #[.string ⟨#[32]⟩] ∧ Blk wr b2 9 #[.string r] ∧ Blk wr b3 3 #[.int .i64 0])
    (fun i f wr => strLeft wr b2)
  case atStart =>
    exact ⟨[], s, by rw [← hxs]; rfl, Nat.le_refl _, hJ0.out, Nat.le_refl _, hb1.out, hb2.out, hb3.out⟩
  case round =>
    obtain ⟨pre, r, hx, hr, hJ, hsz, g1, g2, g3⟩ := hrel
    have hm := strLeft_eq g2
    have q1 : wr.cell? ⟨b1, 0, none⟩ = some (.string ⟨#[32]⟩) := g1.cell 0
    have q2 : wr.cell? ⟨b2, 0, none⟩ = some (.string r) := g2.cell 0
    have q3 : wr.cell? ⟨b3, 0, none⟩ = some (.int .i64 0) := g3.cell 0
    have hcall := callsIn_wide (n := n - 1) |>.2 (Any.strings_Index_one Tryz.lays143 r 32 wr)
    rcases Int.lt_or_le (Lib.indexByte r.data.toList 32) 0 with hi | hi
    · have hi' : Lib.indexByte r.data.toList 32 = -1 := by have := Lib.indexByte_ge r.data.toList 32; omega
      rw [hi'] at hcall
      rw [pieces_noIndex hi'] at hx
      obtain ⟨fn, tmps, assign, body, hy, hR⟩ := hround'.out W.heap.size pre r [] wr (Nat.le_refl _) hsz hJ hx
      gi_wp2_with (refine ⟨trivial, ?_⟩; gi_at_call 90; refine hcall.mono ?_; rintro e w' ⟨rfl, rfl⟩)
      refine hR.mono ?_
      rintro e W3 ⟨rfl, hJ3, hk3⟩
      gi_wp2
      go_end0
      exact ⟨⟨_, rfl⟩, W.heap.size, Nat.le_refl _, Nat.le_trans hsz hk3.size, by rw [hx]; exact hJ3⟩
    · obtain ⟨k, hk⟩ := Int.eq_ofNat_of_zero_le hi
      rw [hk] at hcall
      obtain ⟨hkl, hp⟩ := pieces_index hk
      rw [hp] at hx
      have hks : k < r.size := by
        have : r.data.toList.length = r.size := (Lib.size_eq r).symm
        omega
      have hk2 : k + 1 ≤ 9223372036854775807 := by omega
      have hk3 : k + 1 ≤ r.size := hks
      have hk4 : k ≤ r.size := by omega
      rw [List.map_cons, ba_take] at hx
      obtain ⟨fn, tmps, assign, body, hy, hR⟩ := hround'.out W.heap.size pre (r.extract 0 k) _ wr (Nat.le_refl _) hsz hJ hx
      gi_wp2_with (refine ⟨trivial, ?_⟩; gi_at_call 90; refine hcall.mono ?_; rintro e w' ⟨rfl, rfl⟩)
      refine hR.mono ?_
      rintro e W3 ⟨rfl, hJ3, hkp⟩
      have f1 : Blk W3 b1 9 #[.string ⟨#[32]⟩] := (hkp.block b1 g1.lt (fun h => h (.inl (.inl rfl)))).trans g1
      have f2 : Blk W3 b2 9 #[.string r] := (hkp.block b2 g2.lt (fun h => h (.inl (.inr (.inl rfl))))).trans g2
      have f3 : Blk W3 b3 3 #[.int .i64 0] := (hkp.block b3 g3.lt (fun h => h (.inl (.inr (.inr rfl))))).trans g3
      have p1 : W3.cell? ⟨b1, 0, none⟩ = some (.string ⟨#[32]⟩) := f1.cell 0
      have p2 : W3.cell? ⟨b2, 0, none⟩ = some (.string r) := f2.cell 0
      have p4 := f2.frozen 0
      gi_wp2
      have t3 : Turned (OwnB (fun k => k = b1 ∨ k = b2 ∨ k = b3) W.heap.size W.heap.size) W3 (W3.setCell ⟨b2, 0, none⟩ (.string (r.extract (k + 1) r.size))) := (Turned.refl _ W3).setCell (.inl (.inl (.inr (.inl rfl)))) _
      have d2 : Blk (W3.setCell ⟨b2, 0, none⟩ (.string (r.extract (k + 1) r.size))) b2 9 #[.string (r.extract (k + 1) r.size)] := f2.set_ 0 _
      go_roundw
      case rel =>
        refine ⟨pre ++ [r.extract 0 k], r.extract (k + 1) r.size, ?_, ?_, hrob'.out _ _ _ _ (Nat.le_refl _) hJ3 t3, Nat.le_trans hsz (Nat.le_trans hkp.size t3.size), ?_, d2, ?_⟩
        · rw [hx, ba_drop, List.append_assoc]
          rfl
        · rw [Lib.size_eq, ba_drop, List.length_drop, ← Lib.size_eq]
          omega
        · exact (Below.heap_setCell W3 _ _ b1 (fun e => n12 e)).trans f1
        · exact (Below.heap_setCell W3 _ _ b3 (fun e => n23 e.symm)).trans f3
      case measure =>
        rw [hm, strLeft_eq d2, Lib.size_eq, ba_drop, List.length_drop, ← Lib.size_eq]
        omega
end Go.Proofs.YtglojnmcbochaaaGreatDoor

