/-
  A bag that gathers rows of texts, of parts and of commands.
-/
import Derived.Test.YtijmfglgeaaoaaaGreatDoorQAskI
import Derived.Test.YtijmfglgeaaoaaaGreatDoorQFlt
namespace Go.Proofs.YtijmfglgeaaoaaaGreatDoor
open Go.RowKit Go.Maps
set_option linter.unusedVariables false

def bag3 (vt vp vk : Value) : Array Value := #[.slice none 0 0, .slice none 0 0, .slice none 0 0, vt, .slice none 0 0, .slice none 0 0, .slice none 0 0, .slice none 0 0, .slice none 0 0, vp, .slice none 0 0, .slice none 0 0, vk, .slice none 0 0, .slice none 0 0, .slice none 0 0, .slice none 0 0, .slice none 0 0, .slice none 0 0, .slice none 0 0, .slice none 0 0, .slice none 0 0, .slice none 0 0]
theorem bag3_vt (vt vp vk u : Value) : (bag3 vt vp vk).setIfInBounds 3 u = bag3 u vp vk := rfl
theorem bag3_vp (vt vp vk u : Value) : (bag3 vt vp vk).setIfInBounds 9 u = bag3 vt u vk := rfl
theorem bag3_vk (vt vp vk u : Value) : (bag3 vt vp vk).setIfInBounds 12 u = bag3 vt vp u := rfl

theorem owns_blk {w : World} {s U q n g : Nat} {v : Value} {xs : List Value} (h : w.ownsRow s U q v n xs) (hg : v.ownBlock = some g) : ∃ cur, Blk w g U cur ∧ s ≤ g := by
  rcases h.2 with ⟨rfl, _⟩ | ⟨g', cap, cur, rfl, hs, h2, _⟩
  · cases hg
  · have e : g' = g := by simpa [Value.ownBlock] using hg
    subst e
    exact ⟨cur, h2, hs⟩
theorem owns_turned {w w' : World} {s U q n : Nat} {v : Value} {xs : List Value} {W : Nat → Prop} (h : w.ownsRow s U q v n xs) (ht : Turned W w w') (hW : ∀ g, v.ownBlock = some g → ¬ W g) : w'.ownsRow s U q v n xs := by
  refine ⟨h.1, ?_⟩
  rcases h.2 with h1 | ⟨g, cap, cur, rfl, hs, h2, h3⟩
  · exact .inl h1
  · exact .inr ⟨g, cap, cur, rfl, hs, (show Blk w g U cur from h2).turned ht (hW g rfl), h3⟩
/-- The bag in block b; its rows lie from block s on. -/
def BagIs (w : World) (b s : Nat) (xt xp xk : List Value) : Prop :=
  ∃ vt vp vk, Blk w b 85 (bag3 vt vp vk) ∧ w.ownsRow s 27 1 vt xt.length xt ∧ w.ownsRow s 26 1 vp xp.length xp ∧ w.ownsRow s 37 1 vk xk.length xk
/-- What is neither the bag nor one of its rows stands. -/
def Keeps (w w' : World) : Prop := ∀ (r : Nat) (T : TypeId) (cs : Array Value), Blk w r T cs → T ≠ 85 → T ≠ 27 → T ≠ 26 → T ≠ 37 → Blk w' r T cs
theorem Keeps.trans {a b c : World} (h : Keeps a b) (k : Keeps b c) : Keeps a c := fun r T cs hb h0 h1 h2 h3 => k r T cs (h r T cs hb h0 h1 h2 h3) h0 h1 h2 h3
theorem Keeps.fresh {a b : World} (h : Turned (fun _ => False) a b) : Keeps a b := fun r T cs hb _ _ _ _ => hb.turned h (fun e => e)
theorem BagIs.fresh {w w' : World} {b s : Nat} {xt xp xk : List Value} (h : BagIs w b s xt xp xk) (ht : Turned (fun _ => False) w w') : BagIs w' b s xt xp xk := by
  obtain ⟨vt, vp, vk, hb, h1, h2, h3⟩ := h
  exact ⟨vt, vp, vk, hb.turned ht (fun e => e), owns_turned h1 ht (fun _ _ e => e), owns_turned h2 ht (fun _ _ e => e), owns_turned h3 ht (fun _ _ e => e)⟩
def PutP (b s : Nat) (xt xp xk : List Value) (w : World) (e : Ending) (w' : World) : Prop := e = .returned (.tuple #[]) ∧ BagIs w' b s xt xp xk ∧ Turned (fun i => s ≤ i) w w' ∧ Keeps w w'
theorem bagITexts : (Tryz.prog.info? 27).map (fun i => (i.zero, i.size, i.bytes)) = some (some (.slice none 0 0), 1, 24) := by kernel_rfl
theorem putTexts_after {w w1 : World} {b s : Nat} {vt vp vk : Value} {xt xp xk : List Value} {h cap : Nat} {y : Value} (hs : s ≤ b) (hb : Blk w b 85 (bag3 vt vp vk)) (o1 : w.ownsRow s 27 1 vt xt.length xt) (o2 : w.ownsRow s 26 1 vp xp.length xp) (o3 : w.ownsRow s 37 1 vk xk.length xk)
    (ht : Turned (fun i => vt.ownBlock = some i) w w1) (hown : w1.ownsRow s 27 1 (.slice (some ⟨h, 0, none⟩) (xt.length + 1) cap) (xt.length + 1) (xt ++ [y])) (hat : vt.ownBlock = some h ∨ w.heap.size ≤ h) :
    PutP b s (xt ++ [y]) xp xk w (.returned (.tuple #[])) (w1.setCell ⟨b, 3, none⟩ (.slice (some ⟨h, 0, none⟩) (xt.length + 1) cap)) := by
  have hvb : vt.ownBlock ≠ some b := fun e => by
    obtain ⟨cur, h1, _⟩ := owns_blk o1 e
    exact absurd (Blk.inj h1 hb).2 (by decide)
  have tA : Turned (fun i => i = b ∨ vt.ownBlock = some i) w (w1.setCell ⟨b, 3, none⟩ (.slice (some ⟨h, 0, none⟩) (xt.length + 1) cap)) := (ht.mono (fun _ e => .inl (.inr e))).setCell (.inl (.inl rfl)) _
  have hb1 := hb.turned ht hvb
  have kvp := owns_turned o2 tA (fun g hg e => by
    obtain ⟨c1, h1, _⟩ := owns_blk o2 hg
    rcases e with rfl | e
    · exact absurd (Blk.inj h1 hb).2 (by decide)
    · obtain ⟨c2, h2, _⟩ := owns_blk o1 e
      exact absurd (Blk.inj h1 h2).2 (by decide))
  have kvk := owns_turned o3 tA (fun g hg e => by
    obtain ⟨c1, h1, _⟩ := owns_blk o3 hg
    rcases e with rfl | e
    · exact absurd (Blk.inj h1 hb).2 (by decide)
    · obtain ⟨c2, h2, _⟩ := owns_blk o1 e
      exact absurd (Blk.inj h1 h2).2 (by decide))
  have kk : (w1.setCell ⟨b, 3, none⟩ (.slice (some ⟨h, 0, none⟩) (xt.length + 1) cap)).ownsRow s 27 1 (.slice (some ⟨h, 0, none⟩) (xt.length + 1) cap) (xt ++ [y]).length (xt ++ [y]) := by
    rw [List.length_append]
    refine owns_turned hown ((Turned.refl (· = b) w1).setCell (.inl rfl) _) (fun g hg e => ?_)
    have e' : h = g := by simpa [Value.ownBlock] using hg
    subst e
    subst e'
    rcases hat with e2 | e2
    · exact hvb e2
    · have := hb.lt
      omega
  refine ⟨rfl, ⟨_, vp, vk, by rw [← bag3_vt vt vp vk]; exact hb1.set_ 3 _, kk, kvp, kvk⟩, tA.mono (fun g e => ?_), fun r T cs hr h0 h1 h2 h3 => ?_⟩
  · rcases e with rfl | e
    · exact .inl hs
    · obtain ⟨_, _, h2⟩ := owns_blk o1 e
      exact .inl h2
  · refine hr.turned tA (fun e => ?_)
    rcases e with rfl | e
    · exact h0 (Blk.inj hr hb).2
    · obtain ⟨c2, h5, _⟩ := owns_blk o1 e
      exact h1 (Blk.inj hr h5).2
set_option maxRecDepth 100000 in
set_option maxHeartbeats 1000000 in
theorem putTexts_any (b s : Nat) (xt xp xk : List Value) (A : Option Addr) (n c : Nat) (w : World) (h : BagIs w b s xt xp xk) (hs : s ≤ b) (hk : xt.length ≤ 1000) :
    Calls Tryz.prog 104 #[.pointer (some ⟨b, 0, none⟩), .slice A n c] w (PutP b s (xt ++ [.slice A n c]) xp xk w) := by
  obtain ⟨vt, vp, vk, hb, o1, o2, o3⟩ := h
  obtain ⟨i0, hi, hz0, hz1, hz2⟩ := info_parts bagITexts
  have hI := Lib.hid (And.intro hi (And.intro hz0 (And.intro hz1 hz2)))
  have hb' := Lib.hid hb
  have ho' := Lib.hid (And.intro o1 (And.intro o2 o3))
  have q4 : w.cell? ⟨b, 3, none⟩ = some vt := hb.cell 3
  have hbl := hb.lt
  have hvb' := Lib.hid (show ∀ g, vt.ownBlock = some g → g ≠ b from fun g e => by
    obtain ⟨cur, h1, _⟩ := owns_blk o1 e
    rintro rfl
    exact absurd (Blk.inj h1 hb).2 (by decide))
  have o1' := Lib.hid o1
  clear hi hz0 hz1 hz2 hb o1 o2 o3
  go_enter Tryz.func104, Tryz.ntmps104
  go_wp2_with (at_builtin; refine wpList_append_lies _ rfl (.tmp 8) (.tmp 10) 65 rfl s 27 i0 (.slice none 0 0) 1 24 Tryz.underlying65 hI.out.1 hI.out.2.1 hI.out.2.2.1 hI.out.2.2.2 rfl (by omega) vt xt.length xt rfl (o1'.out.alloc _) ⟨w.heap.size, 0, none⟩ 1 1 [.slice A n c] rfl rfl (cell_one_new _ _ _) (by simp [Value.oneCell']) (by omega) (by unfold maxLen; omega) (by omega) (by simp; omega) _ rfl ?_; intro h cap w1 hown hgr hat hlt; have hb1 := ((hb'.out.alloc _).grown hgr (fun e => hvb'.out b e.symm rfl)); have q4 : w1.cell? ⟨b, 3, none⟩ = some vt := hb1.cell 3; have q5 := hb1.frozen 3)
  go_end0
  refine putTexts_after hs hb'.out ho'.out.1 ho'.out.2.1 ho'.out.2.2 (((Turned.refl _ w).alloc _).grown hgr (fun g e => .inl e)) hown ?_
  rcases hat with e2 | e2
  · exact .inl e2
  · exact .inr (by simp at e2; omega)
theorem bagIParts : (Tryz.prog.info? 26).map (fun i => (i.zero, i.size, i.bytes)) = some (some (.slice none 0 0), 1, 24) := by kernel_rfl
theorem putParts_after {w w1 : World} {b s : Nat} {vt vp vk : Value} {xt xp xk : List Value} {h cap : Nat} {y : Value} (hs : s ≤ b) (hb : Blk w b 85 (bag3 vt vp vk)) (o1 : w.ownsRow s 27 1 vt xt.length xt) (o2 : w.ownsRow s 26 1 vp xp.length xp) (o3 : w.ownsRow s 37 1 vk xk.length xk)
    (ht : Turned (fun i => vp.ownBlock = some i) w w1) (hown : w1.ownsRow s 26 1 (.slice (some ⟨h, 0, none⟩) (xp.length + 1) cap) (xp.length + 1) (xp ++ [y])) (hat : vp.ownBlock = some h ∨ w.heap.size ≤ h) :
    PutP b s xt (xp ++ [y]) xk w (.returned (.tuple #[])) (w1.setCell ⟨b, 9, none⟩ (.slice (some ⟨h, 0, none⟩) (xp.length + 1) cap)) := by
  have hvb : vp.ownBlock ≠ some b := fun e => by
    obtain ⟨cur, h1, _⟩ := owns_blk o2 e
    exact absurd (Blk.inj h1 hb).2 (by decide)
  have tA : Turned (fun i => i = b ∨ vp.ownBlock = some i) w (w1.setCell ⟨b, 9, none⟩ (.slice (some ⟨h, 0, none⟩) (xp.length + 1) cap)) := (ht.mono (fun _ e => .inl (.inr e))).setCell (.inl (.inl rfl)) _
  have hb1 := hb.turned ht hvb
  have kvt := owns_turned o1 tA (fun g hg e => by
    obtain ⟨c1, h1, _⟩ := owns_blk o1 hg
    rcases e with rfl | e
    · exact absurd (Blk.inj h1 hb).2 (by decide)
    · obtain ⟨c2, h2, _⟩ := owns_blk o2 e
      exact absurd (Blk.inj h1 h2).2 (by decide))
  have kvk := owns_turned o3 tA (fun g hg e => by
    obtain ⟨c1, h1, _⟩ := owns_blk o3 hg
    rcases e with rfl | e
    · exact absurd (Blk.inj h1 hb).2 (by decide)
    · obtain ⟨c2, h2, _⟩ := owns_blk o2 e
      exact absurd (Blk.inj h1 h2).2 (by decide))
  have kk : (w1.setCell ⟨b, 9, none⟩ (.slice (some ⟨h, 0, none⟩) (xp.length + 1) cap)).ownsRow s 26 1 (.slice (some ⟨h, 0, none⟩) (xp.length + 1) cap) (xp ++ [y]).length (xp ++ [y]) := by
    rw [List.length_append]
    refine owns_turned hown ((Turned.refl (· = b) w1).setCell (.inl rfl) _) (fun g hg e => ?_)
    have e' : h = g := by simpa [Value.ownBlock] using hg
    subst e
    subst e'
    rcases hat with e2 | e2
    · exact hvb e2
    · have := hb.lt
      omega
  refine ⟨rfl, ⟨vt, _, vk, by rw [← bag3_vp vt vp vk]; exact hb1.set_ 9 _, kvt, kk, kvk⟩, tA.mono (fun g e => ?_), fun r T cs hr h0 h1 h2 h3 => ?_⟩
  · rcases e with rfl | e
    · exact .inl hs
    · obtain ⟨_, _, h2⟩ := owns_blk o2 e
      exact .inl h2
  · refine hr.turned tA (fun e => ?_)
    rcases e with rfl | e
    · exact h0 (Blk.inj hr hb).2
    · obtain ⟨c2, h5, _⟩ := owns_blk o2 e
      exact h2 (Blk.inj hr h5).2
set_option maxRecDepth 100000 in
set_option maxHeartbeats 1000000 in
theorem putParts_any (b s : Nat) (xt xp xk : List Value) (A : Option Addr) (n c : Nat) (w : World) (h : BagIs w b s xt xp xk) (hs : s ≤ b) (hk : xp.length ≤ 1000) :
    Calls Tryz.prog 103 #[.pointer (some ⟨b, 0, none⟩), .slice A n c] w (PutP b s xt (xp ++ [.slice A n c]) xk w) := by
  obtain ⟨vt, vp, vk, hb, o1, o2, o3⟩ := h
  obtain ⟨i0, hi, hz0, hz1, hz2⟩ := info_parts bagIParts
  have hI := Lib.hid (And.intro hi (And.intro hz0 (And.intro hz1 hz2)))
  have hb' := Lib.hid hb
  have ho' := Lib.hid (And.intro o1 (And.intro o2 o3))
  have q4 : w.cell? ⟨b, 9, none⟩ = some vp := hb.cell 9
  have hbl := hb.lt
  have hvb' := Lib.hid (show ∀ g, vp.ownBlock = some g → g ≠ b from fun g e => by
    obtain ⟨cur, h1, _⟩ := owns_blk o2 e
    rintro rfl
    exact absurd (Blk.inj h1 hb).2 (by decide))
  have o2' := Lib.hid o2
  clear hi hz0 hz1 hz2 hb o1 o2 o3
  go_enter Tryz.func103, Tryz.ntmps103
  go_wp2_with (at_builtin; refine wpList_append_lies _ rfl (.tmp 8) (.tmp 10) 71 rfl s 26 i0 (.slice none 0 0) 1 24 Tryz.underlying71 hI.out.1 hI.out.2.1 hI.out.2.2.1 hI.out.2.2.2 rfl (by omega) vp xp.length xp rfl (o2'.out.alloc _) ⟨w.heap.size, 0, none⟩ 1 1 [.slice A n c] rfl rfl (cell_one_new _ _ _) (by simp [Value.oneCell']) (by omega) (by unfold maxLen; omega) (by omega) (by simp; omega) _ rfl ?_; intro h cap w1 hown hgr hat hlt; have hb1 := ((hb'.out.alloc _).grown hgr (fun e => hvb'.out b e.symm rfl)); have q4 : w1.cell? ⟨b, 9, none⟩ = some vp := hb1.cell 9; have q5 := hb1.frozen 9)
  go_end0
  refine putParts_after hs hb'.out ho'.out.1 ho'.out.2.1 ho'.out.2.2 (((Turned.refl _ w).alloc _).grown hgr (fun g e => .inl e)) hown ?_
  rcases hat with e2 | e2
  · exact .inl e2
  · exact .inr (by simp at e2; omega)
theorem bagIAsks : (Tryz.prog.info? 37).map (fun i => (i.zero, i.size, i.bytes)) = some (some (.slice none 0 0), 1, 24) := by kernel_rfl
theorem putAsks_after {w w1 : World} {b s : Nat} {vt vp vk : Value} {xt xp xk : List Value} {h cap : Nat} {y : Value} (hs : s ≤ b) (hb : Blk w b 85 (bag3 vt vp vk)) (o1 : w.ownsRow s 27 1 vt xt.length xt) (o2 : w.ownsRow s 26 1 vp xp.length xp) (o3 : w.ownsRow s 37 1 vk xk.length xk)
    (ht : Turned (fun i => vk.ownBlock = some i) w w1) (hown : w1.ownsRow s 37 1 (.slice (some ⟨h, 0, none⟩) (xk.length + 1) cap) (xk.length + 1) (xk ++ [y])) (hat : vk.ownBlock = some h ∨ w.heap.size ≤ h) :
    PutP b s xt xp (xk ++ [y]) w (.returned (.tuple #[])) (w1.setCell ⟨b, 12, none⟩ (.slice (some ⟨h, 0, none⟩) (xk.length + 1) cap)) := by
  have hvb : vk.ownBlock ≠ some b := fun e => by
    obtain ⟨cur, h1, _⟩ := owns_blk o3 e
    exact absurd (Blk.inj h1 hb).2 (by decide)
  have tA : Turned (fun i => i = b ∨ vk.ownBlock = some i) w (w1.setCell ⟨b, 12, none⟩ (.slice (some ⟨h, 0, none⟩) (xk.length + 1) cap)) := (ht.mono (fun _ e => .inl (.inr e))).setCell (.inl (.inl rfl)) _
  have hb1 := hb.turned ht hvb
  have kvt := owns_turned o1 tA (fun g hg e => by
    obtain ⟨c1, h1, _⟩ := owns_blk o1 hg
    rcases e with rfl | e
    · exact absurd (Blk.inj h1 hb).2 (by decide)
    · obtain ⟨c2, h2, _⟩ := owns_blk o3 e
      exact absurd (Blk.inj h1 h2).2 (by decide))
  have kvp := owns_turned o2 tA (fun g hg e => by
    obtain ⟨c1, h1, _⟩ := owns_blk o2 hg
    rcases e with rfl | e
    · exact absurd (Blk.inj h1 hb).2 (by decide)
    · obtain ⟨c2, h2, _⟩ := owns_blk o3 e
      exact absurd (Blk.inj h1 h2).2 (by decide))
  have kk : (w1.setCell ⟨b, 12, none⟩ (.slice (some ⟨h, 0, none⟩) (xk.length + 1) cap)).ownsRow s 37 1 (.slice (some ⟨h, 0, none⟩) (xk.length + 1) cap) (xk ++ [y]).length (xk ++ [y]) := by
    rw [List.length_append]
    refine owns_turned hown ((Turned.refl (· = b) w1).setCell (.inl rfl) _) (fun g hg e => ?_)
    have e' : h = g := by simpa [Value.ownBlock] using hg
    subst e
    subst e'
    rcases hat with e2 | e2
    · exact hvb e2
    · have := hb.lt
      omega
  refine ⟨rfl, ⟨vt, vp, _, by rw [← bag3_vk vt vp vk]; exact hb1.set_ 12 _, kvt, kvp, kk⟩, tA.mono (fun g e => ?_), fun r T cs hr h0 h1 h2 h3 => ?_⟩
  · rcases e with rfl | e
    · exact .inl hs
    · obtain ⟨_, _, h2⟩ := owns_blk o3 e
      exact .inl h2
  · refine hr.turned tA (fun e => ?_)
    rcases e with rfl | e
    · exact h0 (Blk.inj hr hb).2
    · obtain ⟨c2, h5, _⟩ := owns_blk o3 e
      exact h3 (Blk.inj hr h5).2
set_option maxRecDepth 100000 in
set_option maxHeartbeats 1000000 in
theorem oneAsk_any (b s : Nat) (xt xp xk : List Value) (a : AskV) (S : AskS) (w : World) (h : BagIs w b s xt xp xk) (hs : s ≤ b) (hsz : s ≤ w.heap.size) (hk : xt.length ≤ 900) (hkp : xp.length ≤ 900) :
    Calls Tryz.prog 60 #[.pointer (some ⟨b, 0, none⟩), .agg (askC a S)] w (PutP b s (xt ++ [.slice S.O.A S.O.n S.O.c]) (xp ++ [.slice S.P.A S.P.n S.P.c]) xk w) := by
  have h' := Lib.hid h
  clear h
  have B0 := Lib.hid (Blk.new w 29 (askC a S))
  have T0 := (Turned.refl (fun _ => False) w).alloc (.cells (askC a S) 29)
  have H0 := Lib.hid (h'.out.fresh T0)
  have U0 := Lib.hid T0
  clear T0
  unfold askC strV at B0 H0 U0 ⊢
  go_enter Tryz.func60, Tryz.ntmps60
  go_wp2_with fail
  refine (putParts_any b s xt xp xk S.P.A S.P.n S.P.c _ H0.out hs (by omega)).mono ?_
  rintro e w1 ⟨rfl, H1, T1, K1⟩
  have H1 := Lib.hid H1
  have T1 := Lib.hid T1
  have B1 := Lib.hid (K1 _ _ _ B0.out (by decide) (by decide) (by decide) (by decide))
  have K1 := Lib.hid K1
  have q1 := B1.out.cell 10
  simp only [List.getElem?_toArray, List.getElem?_cons_succ, List.getElem?_cons_zero] at q1
  go_wp2_with fail
  refine (putTexts_any b s xt _ xk S.O.A S.O.n S.O.c _ H1.out hs (by omega)).mono ?_
  rintro e w2 ⟨rfl, H2, T2, K2⟩
  have H2 := Lib.hid H2
  have T2 := Lib.hid T2
  have K2 := Lib.hid K2
  clear q1
  go_wp2_with fail
  go_end0
  exact ⟨rfl, H2.out, ((U0.out.mono (fun _ e => e.elim)).trans (W := fun i => s ≤ i) T1.out (fun _ e => e) (fun _ e => .inl e)).trans (W := fun i => s ≤ i) T2.out (fun _ e => e) (fun _ e => .inl e), ((Keeps.fresh U0.out).trans K1.out).trans K2.out⟩
def orB (k : Nat) (l : List Value) : List Value := if k = 0 then [] else l
def PutR1 (b s : Nat) (xt xp xk : List Value) (S : AskS) (w : World) (i : Value) (wr : World) : Prop := ∃ k : Nat, k ≤ 1 ∧ i = .int .i64 k ∧ BagIs wr b s (xt ++ orB k [.slice S.O.A S.O.n S.O.c]) (xp ++ orB k [.slice S.P.A S.P.n S.P.c]) xk ∧ Turned (fun i => s ≤ i) w wr ∧ Keeps w wr
set_option maxRecDepth 100000 in
set_option maxHeartbeats 1000000 in
theorem putAsk_any (b s g cg : Nat) (xt xp xk : List Value) (a : AskV) (S : AskS) (w : World) (h : BagIs w b s xt xp xk) (hs : s ≤ b) (hg : g < s) (hsz : s ≤ w.heap.size) (hr : Blk w g 29 (askC a S)) (hk : xt.length ≤ 800) (hkp : xp.length ≤ 800) (hkk : xk.length ≤ 800) :
    Calls Tryz.prog 33 #[.pointer (some ⟨b, 0, none⟩), .slice (some ⟨g, 0, none⟩) 1 cg] w (PutP b s (xt ++ [.slice S.O.A S.O.n S.O.c]) (xp ++ [.slice S.P.A S.P.n S.P.c]) (xk ++ [.slice (some ⟨g, 0, none⟩) 1 cg]) w) := by
  obtain ⟨vt, vp, vk, hb, o1, o2, o3⟩ := h
  obtain ⟨i0, hi, hz0, hz1, hz2⟩ := info_parts bagIAsks
  have hI := Lib.hid (And.intro hi (And.intro hz0 (And.intro hz1 hz2)))
  have hb' := Lib.hid hb
  have hr' := Lib.hid hr
  have ho' := Lib.hid (And.intro o1 (And.intro o2 o3))
  have q4 : w.cell? ⟨b, 12, none⟩ = some vk := hb.cell 12
  have hbl := hb.lt
  have hvb' := Lib.hid (show ∀ g, vk.ownBlock = some g → g ≠ b from fun g e => by
    obtain ⟨cur, h1, _⟩ := owns_blk o3 e
    rintro rfl
    exact absurd (Blk.inj h1 hb).2 (by decide))
  have o3' := Lib.hid o3
  clear hi hz0 hz1 hz2 hb o1 o2 o3 hr
  go_enter Tryz.func33, Tryz.ntmps33
  go_wp2_with (at_builtin; refine wpList_append_lies _ rfl (.tmp 9) (.tmp 11) 38 rfl s 37 i0 (.slice none 0 0) 1 24 Tryz.underlying38 hI.out.1 hI.out.2.1 hI.out.2.2.1 hI.out.2.2.2 rfl (by omega) vk xk.length xk rfl (o3'.out.alloc _) ⟨w.heap.size, 0, none⟩ 1 1 [.slice (some ⟨g, 0, none⟩) 1 cg] rfl rfl (cell_one_new _ _ _) (by simp [Value.oneCell']) (by omega) (by unfold maxLen; omega) (by omega) (by simp; omega) _ rfl ?_; intro h cap w1 hown hgr hat hlt; have hb1 := ((hb'.out.alloc _).grown hgr (fun e => hvb'.out b e.symm rfl)); have q4 : w1.cell? ⟨b, 12, none⟩ = some vk := hb1.cell 12; have q5 := hb1.frozen 12)
  have hP := putAsks_after hs hb'.out ho'.out.1 ho'.out.2.1 ho'.out.2.2 (((Turned.refl _ w).alloc _).grown hgr (fun g e => .inl e)) hown (by
    rcases hat with e2 | e2
    · exact .inl e2
    · exact .inr (by simp at e2; omega))
  have hP' := Lib.hid (And.intro hP.2.1 hP.2.2)
  clear hP hb1 hown hgr hat hlt q4 q5
  go_loopw [4] (fun i wr => PutR1 b s xt xp (xk ++ [.slice (some ⟨g, 0, none⟩) 1 cg]) S w i wr) (fun i _ => 1 - (intOf i).toNat)
  case atStart => exact ⟨0, by omega, rfl, by simpa [orB] using hP'.out.1, hP'.out.2.1, hP'.out.2.2⟩
  case round =>
    clear hP'
    obtain ⟨k, hk1, rfl, hB, hT, hK⟩ := hrel
    have hB := Lib.hid hB
    have hT := Lib.hid hT
    have hK := Lib.hid hK
    by_cases hk0 : k = 0
    · subst hk0
      have hr2 := hr'.out.turned hT.out (by omega)
      unfold askC strV at hr2
      obtain ⟨c0, c1, c2, c3, c4, c5, c6, c7, c8, c9, c10⟩ := hr2.cells11
      clear hr2
      have hsz2 := hT.out.size
      have hO := oneAsk_any b s xt xp (xk ++ [.slice (some ⟨g, 0, none⟩) 1 cg]) a S wr (by simpa [orB] using hB.out) hs (by omega) (by omega) (by omega)
      unfold askC strV at hO
      go_wp2_with fail
      refine hO.mono ?_
      clear hO
      rintro e w2 ⟨rfl, H2, T2, K2⟩
      have hR := Lib.hid (show PutR1 b s xt xp (xk ++ [.slice (some ⟨g, 0, none⟩) 1 cg]) S w (.int .i64 ((1 : Nat) : Int)) w2 from ⟨1, by omega, rfl, by simpa [orB] using H2, hT.out.trans (W := fun i => s ≤ i) T2 (fun _ e => e) (fun _ e => .inl e), hK.out.trans K2⟩)
      clear H2 T2 K2
      go_wp2_with fail
      go_roundw
      case rel => exact hR.out
      case measure => simp [intOf]
    · have hk2 : k = 1 := by omega
      subst hk2
      go_wp2_with fail
      go_end0
      exact ⟨rfl, by simpa [orB] using hB.out, hT.out, hK.out⟩
end Go.Proofs.YtijmfglgeaaoaaaGreatDoor

