/-
  A loop over a function, where the function keeps state of its own in cells, or is itself a loop over another one: what it gives, and the law of the loop over it. No condition: laws over any program, for a loop that no round leaves early.
-/
import Derived.Test.YtglojnmcbochaaaGreatDoorRMem
import Derived.RangeFuncNested
import Derived.RangeFuncBound
import Derived.RangeFuncCalls
import Derived.RangeFuncLeaves
import Derived.Shelf.Abstract
import Derived.Shelf.RegionOpen
import Derived.OwnWalkIn
import Derived.TacticsInMore
import Derived.LoopNIn
import Derived.LoopIn
namespace Go.Proofs.YtglojnmcbochaaaGreatDoor
open Go.RowKit Go.Maps Go.Shelf
set_option linter.unusedVariables false

/-- The function's own blocks: those of O, and those laid between its call (at a heap of the size s) and the first round (B). -/
def OwnB (O : Nat → Prop) (s B : Nat) (k : Nat) : Prop := O k ∨ (s ≤ k ∧ k < B)
/-- A FUNCTION GIVES texts, one after the other: whatever J the rounds carry that does not speak of the function's own blocks, if each round says 'go on' and leaves those blocks alone, all come, and J holds at the end. -/
def Gives (n : Nat) (P : Program) (g : Nat) (lb : Array Value) (O : Nat → Prop) (xs : List ByteArray) (w : World) : Prop :=
  ∀ (l : Nat) (J : Nat → List ByteArray → World → Prop) (W : World), Turned (fun _ => False) w W →
    (∀ B pre A A', W.heap.size ≤ B → J B pre A → Turned (OwnB O W.heap.size B) A A' → J B pre A') →
    (∀ B A, A.heap.size = B → Turned O W A → J B [] A) →
    (∀ B pre x post A, W.heap.size ≤ B → B ≤ A.heap.size → J B pre A → xs = pre ++ x :: post → YieldAt Fence.wide (n - 1) P l #[.string x] A fun e A' =>
      e = .returned (.bool true) ∧ J B (pre ++ [x]) A' ∧ Turned (fun k => ¬ OwnB O W.heap.size B k) A A') →
    CallsIn Fence.wide n P g (#[.func (.yield l) #[] #[]] ++ lb) W fun e A' => (∃ v, e = .returned v) ∧ ∃ B, W.heap.size ≤ B ∧ B ≤ A'.heap.size ∧ J B xs A'

theorem turned_putObj (W : World) (l : Nat) (o : Obj) {T : Nat → Prop} (h : T l) : Turned T W (W.putObj l o) :=
  ⟨rfl, rfl, rfl, by simp, fun k _ hk => World.putObj_heap_other (fun e => hk (e ▸ h))⟩

/-- How a round's body is left: off its end alone. -/
def givePost (T : Nat → Prop) (I : World → Prop) (W : World) : Exit → Act → World → Prop
  | .normal, _, W' => Turned T W W' ∧ I W'
  | _, _, _ => False

variable {n : Nat} {P : Program}
/-- THE LOOP over a function that gives. -/
theorem wpIn_range_gives {g : Operand} {p : Tmp} {assign body : Code} {Q : Exit → Act → World → Prop} {a : Act} {w : World}
    (h1 : 1 ≤ n) {gf : Nat} {lb : Array Value} (hg : a.eval g = .func (.func gf) #[] lb) (eg : ∀ args w, (callFunc gf args).run P w = .ok (.enter gf args) w)
    {O : Nat → Prop} {xs : List ByteArray} (hseq : Gives (n - 1) P gf lb O xs w) (hO : ∀ k, O k → k < w.heap.size)
    (I : Nat → List ByteArray → World → Prop)
    (hI : ∀ B pre A A', w.heap.size + 2 ≤ B → I B pre A → Turned (OwnB O w.heap.size B) A A' → I B pre A')
    (h0 : ∀ B A, A.heap.size = B → w.heap.size + 2 ≤ B → Turned O w A → I B [] A) (a₁ : ByteArray → Act)
    (hassign : ∀ (l : Nat) (x : ByteArray) (W : World) (K : Act → World → Prop), K (a₁ x) W →
      assign.wpIn (Fence.wide.inRound l) (n - 1 - 1) P (Exit.then K (fun _ _ _ => False)) { tmps := a.tmps.setIfInBounds p (.string x), defers := [] } W)
    (hbody : ∀ (l B : Nat) (pre : List ByteArray) (x : ByteArray) (post : List ByteArray) (W : World), w.heap.size + 2 ≤ B → B ≤ W.heap.size → I B pre W → xs = pre ++ x :: post →
      body.wpIn (Fence.wide.inRound l) (n - 1 - 1) P (givePost (fun k => ¬ OwnB O w.heap.size B k) (I B (pre ++ [x])) W) (a₁ x) W)
    (hdone : ∀ (B : Nat) (W : World), w.heap.size + 2 ≤ B → B ≤ W.heap.size → I B xs W → W.heap[w.heap.size]? = some (.deferred (some [])) → Q .normal { a with defers := { target := .collected w.heap.size, args := #[] } :: a.defers } W) :
    (Code.rangeFunc g #[p] assign body).wpIn Fence.wide n P Q a w := by
  refine wpIn_rangeFunc ?_
  intro fn hfn
  rw [show Fence.wide.round = none from rfl]
  obtain ⟨D, hD⟩ : ∃ D, w.heap.size = D := ⟨_, rfl⟩
  rw [hD] at hI h0 hbody hdone hO
  obtain ⟨rec, hrec⟩ : ∃ rec : LoopState → Option Code → Loop, rec = fun st pe => { state := st, pending := pe, fn, tmps := a.tmps, params := #[p], assign, body, defers := D } := ⟨_, rfl⟩
  obtain ⟨W1, hW1⟩ : ∃ W1, (w.alloc (.deferred (some []))).alloc (.loop (rec .ready none)) = W1 := ⟨_, rfl⟩
  have hs1 : W1.heap.size = D + 2 := by rw [← hW1]; simp [hD]
  have hL1 : W1.heap[D + 1]? = some (.loop (rec .ready none)) := by
    have := World.alloc_heap_new (w.alloc (.deferred (some []))) (.loop (rec .ready none))
    rw [World.size_alloc, hD] at this
    rw [← hW1]; exact this
  have hK1 : W1.heap[D]? = some (.deferred (some [])) := by
    rw [← hW1, ← hD]; exact (Below.heap_alloc _ _ _ (by simp)).trans (World.alloc_heap_new w _)
  have ht1 : Turned (fun _ => False) w W1 := by
    rw [← hW1]; exact ((Turned.refl _ w).alloc _).alloc _
  have hin : ∀ B k, D + 2 ≤ B → k = D ∨ k = D + 1 → OwnB O D B k := fun B k hB hk => .inr (by omega)
  have hout : ∀ B k, k = D ∨ k = D + 1 → ¬ OwnB O W1.heap.size B k := fun B k hk h => by
    rcases h with h | h
    · have := hO k h; omega
    · omega
  have hsub : ∀ B k, OwnB O W1.heap.size B k → OwnB O D B k := fun B k h => by
    rcases h with h | h
    · exact .inl h
    · exact .inr (by omega)
  refine ⟨D + 1, [{ target := .collected D, args := #[] }], W1, { target := .fn (.func gf) lb, args := #[.func (.yield (D + 1)) #[] #[]] }, W1, gf,
    #[.func (.yield (D + 1)) #[] #[]] ++ lb, W1, ?_, ?_, ?_, ?_, fun _ => h1, ?_⟩
  · have := run_enterLoop_outer (P := P) (w := w) fn a.tmps #[p] assign body
    rw [hD] at this
    rw [← hW1, hrec]; exact this
  · simp only [resolve, hg]
    simp [go_sem]
  · intro f' _; trivial
  · simp [invoke, go_sem, eg]
  · refine (hseq (D + 1)
      (fun B pre A => I B pre A ∧ A.heap[D + 1]? = some (.loop (rec .ready none)) ∧ A.heap[D]? = some (.deferred (some [])))
      W1 ht1 ?_ ?_ ?_).mono ?_
    · rintro B pre A A' hB ⟨hi, hl, hk⟩ ht
      have hDl := (Array.getElem?_eq_some_iff.1 hl).1
      exact ⟨hI B pre A A' (by omega) hi (ht.mono fun k hk => .inl (hsub B k hk)), (ht.block _ hDl (hout B _ (.inr rfl))).trans hl, (ht.block _ (by omega) (hout B _ (.inl rfl))).trans hk⟩
    · intro B A hB ht
      refine ⟨h0 B A hB (by have := ht.size; omega) (ht1.trans ht (fun _ e => e.elim) (fun _ e => .inl e)), (ht.block _ (by omega) (fun e => by have := hO _ e; omega)).trans hL1, (ht.block _ (by omega) (fun e => by have := hO _ e; omega)).trans hK1⟩
    · rintro B pre x post W hB hBW ⟨hi, hl, hk⟩ hx
      have hB' : D + 2 ≤ B := by omega
      have hlt : D + 1 < W.heap.size := (Array.getElem?_eq_some_iff.1 hl).1
      have hy := run_yield (P := P) (args := #[.string x]) hl (by rw [hrec]; rfl)
      rw [hrec] at hy
      refine ⟨fn, _, assign, body, hy, roundIn_of_wpIn hfn ?_⟩
      have hz : (((#[p] : Array Tmp).zip (#[.string x] : Array Value)).foldl (fun tmps (t, a) => tmps.setIfInBounds t a) a.tmps) = a.tmps.setIfInBounds p (.string x) := by simp
      dsimp only
      rw [hz]
      refine hassign _ x W _ ⟨_, run_beginRound hl (by rw [hrec]), ?_⟩
      have hl2 : (W.putObj (D + 1) (.loop { rec .ready none with state := .busy })).heap[D + 1]? = some (.loop { rec .ready none with state := .busy }) := World.putObj_heap_same hlt
      have hk2 : (W.putObj (D + 1) (.loop { rec .ready none with state := .busy })).heap[D]? = some (.deferred (some [])) := (World.putObj_heap_other (by omega)).trans hk
      have t1 : Turned (OwnB O D B) W (W.putObj (D + 1) (.loop { rec .ready none with state := .busy })) := turned_putObj _ _ _ (hin B _ hB' (.inr rfl))
      refine wpIn_mono (hbody _ B pre x post _ hB' (by simp; omega) (hI B pre _ _ hB' hi t1) hx) ?_
      rintro e a3 W3 hp
      cases e with
      | normal =>
        obtain ⟨ht3, hi3⟩ := hp
        have hn : ∀ k, k = D ∨ k = D + 1 → ¬ ¬ OwnB O D B k := fun k hk h => h (hin B k hB' hk)
        have hl3 := (ht3.block (D + 1) (by simp; omega) (hn _ (.inr rfl))).trans hl2
        have hk3 := (ht3.block D (by simp; omega) (hn _ (.inl rfl))).trans hk2
        have hr := run_endRound (P := P) none hl3
        refine ⟨_, _, hr, rfl, ⟨hI B _ _ _ hB' hi3 (turned_putObj _ _ _ (hin B _ hB' (.inr rfl))), ?_, (World.putObj_heap_other (by omega)).trans hk3⟩, ?_⟩
        · rw [World.putObj_heap_same (Array.getElem?_eq_some_iff.1 hl3).1, hrec]
          rfl
        · have tA : Turned (fun k => ¬ OwnB O W1.heap.size B k) W (W.putObj (D + 1) (.loop { rec .ready none with state := .busy })) := turned_putObj _ _ _ (hout B _ (.inr rfl))
          have tB := ht3.mono (W' := fun k => ¬ OwnB O W1.heap.size B k) fun k hk => .inl fun h => hk (hsub B k h)
          exact (tA.trans tB (fun _ e => e) (fun _ e => .inl e)).trans (turned_putObj _ _ _ (hout B _ (.inr rfl))) (fun _ e => e) (fun _ e => .inl e)
      | ret => exact hp.elim
      | exit id => exact hp.elim
      | goto t => exact hp.elim
      | panic ch => exact hp.elim
      | outgrown => exact hp.elim
    · rintro e W2 ⟨⟨v, rfl⟩, B, hB, hBW, hi, hl, hk⟩
      have hB' : D + 2 ≤ B := by omega
      refine ⟨none, _, by have := run_endLoop (P := P) hl (by rw [hrec]; simp); rw [hrec] at this; exact this, ?_⟩
      have hfin := hdone B (W2.putObj (D + 1) (.loop { rec .ready none with state := .exhausted })) hB' (by simp; omega) (hI B _ _ _ hB' hi (turned_putObj _ _ _ (hin B _ hB' (.inr rfl)))) ((World.putObj_heap_other (by omega)).trans hk)
      rw [hrec] at hfin
      exact hfin
end Go.Proofs.YtglojnmcbochaaaGreatDoor

