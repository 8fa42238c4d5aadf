/-
  A bag that gathers rows of bytes, of dirty pages, of open works and of records.
-/
import Derived.Test.YtohajofkflibjaaGreatDoorRecH
import Derived.Test.YtohajofkflibjaaGreatDoorApP
namespace Go.Proofs.YtohajofkflibjaaGreatDoor
open Go.RowKit Go.Maps
set_option linter.unusedVariables false

def bag4 (vb vd vo vr : Value) : Array Value := #[.slice none 0 0, .slice none 0 0, .slice none 0 0, .slice none 0 0, vb, .slice none 0 0, .slice none 0 0, .slice none 0 0, .slice none 0 0, .slice none 0 0, .slice none 0 0, .slice none 0 0, .slice none 0 0, .slice none 0 0, .slice none 0 0, .slice none 0 0, .slice none 0 0, .slice none 0 0, vd, vo, vr, .slice none 0 0, .slice none 0 0]
theorem bag4_vb (vb vd vo vr u : Value) : (bag4 vb vd vo vr).setIfInBounds 4 u = bag4 u vd vo vr := rfl
theorem bag4_vd (vb vd vo vr u : Value) : (bag4 vb vd vo vr).setIfInBounds 18 u = bag4 vb u vo vr := rfl
theorem bag4_vo (vb vd vo vr u : Value) : (bag4 vb vd vo vr).setIfInBounds 19 u = bag4 vb vd u vr := rfl
theorem bag4_vr (vb vd vo vr u : Value) : (bag4 vb vd vo vr).setIfInBounds 20 u = bag4 vb vd vo u := rfl

theorem owns_blk {w : World} {s U q n g : Nat} {v : Value} {xs : List Value} (h : w.ownsRow s U q v n xs) (hg : v.ownBlock = some g) : ∃ cur, Blk w g U cur ∧ s ≤ g := by
  rcases h.2 with ⟨rfl, _⟩ | ⟨g', cap, cur, rfl, hs, h2, _⟩
  · cases hg
  · have e : g' = g := by simpa [Value.ownBlock] using hg
    subst e
    exact ⟨cur, h2, hs⟩
theorem owns_turned {w w' : World} {s U q n : Nat} {v : Value} {xs : List Value} {W : Nat → Prop} (h : w.ownsRow s U q v n xs) (ht : Turned W w w') (hW : ∀ g, v.ownBlock = some g → ¬ W g) : w'.ownsRow s U q v n xs := by
  refine ⟨h.1, ?_⟩
  rcases h.2 with h1 | ⟨g, cap, cur, rfl, hs, h2, h3⟩
  · exact .inl h1
  · exact .inr ⟨g, cap, cur, rfl, hs, (show Blk w g U cur from h2).turned ht (hW g rfl), h3⟩
/-- The bag in block b; its rows lie from block s on. -/
def BagIs (w : World) (b s : Nat) (xb xd xo xr : List Value) : Prop :=
  ∃ vb vd vo vr, Blk w b 105 (bag4 vb vd vo vr) ∧ w.ownsRow s 23 1 vb xb.length xb ∧ w.ownsRow s 26 1 vd xd.length xd ∧ w.ownsRow s 27 1 vo xo.length xo ∧ w.ownsRow s 46 1 vr xr.length xr
/-- What is neither the bag nor one of its rows stands. -/
def Keeps (w w' : World) : Prop := ∀ (r : Nat) (T : TypeId) (cs : Array Value), Blk w r T cs → T ≠ 105 → T ≠ 23 → T ≠ 26 → T ≠ 27 → T ≠ 46 → Blk w' r T cs
theorem Keeps.trans {a b c : World} (h : Keeps a b) (k : Keeps b c) : Keeps a c := fun r T cs hb h0 h1 h2 h3 h4 => k r T cs (h r T cs hb h0 h1 h2 h3 h4) h0 h1 h2 h3 h4
theorem Keeps.fresh {a b : World} (h : Turned (fun _ => False) a b) : Keeps a b := fun r T cs hb _ _ _ _ _ => hb.turned h (fun e => e)
theorem BagIs.fresh {w w' : World} {b s : Nat} {xb xd xo xr : List Value} (h : BagIs w b s xb xd xo xr) (ht : Turned (fun _ => False) w w') : BagIs w' b s xb xd xo xr := by
  obtain ⟨vb, vd, vo, vr, hb, h1, h2, h3, h4⟩ := h
  exact ⟨vb, vd, vo, vr, hb.turned ht (fun e => e), owns_turned h1 ht (fun _ _ e => e), owns_turned h2 ht (fun _ _ e => e), owns_turned h3 ht (fun _ _ e => e), owns_turned h4 ht (fun _ _ e => e)⟩
def PutP (b s : Nat) (xb xd xo xr : List Value) (w : World) (e : Ending) (w' : World) : Prop := e = .returned (.tuple #[]) ∧ BagIs w' b s xb xd xo xr ∧ Turned (fun i => s ≤ i) w w' ∧ Keeps w w'
theorem bagIBytes : (Tryz.prog.info? 23).map (fun i => (i.zero, i.size, i.bytes)) = some (some (.slice none 0 0), 1, 24) := by kernel_rfl
theorem putBytes_after {w w1 : World} {b s : Nat} {vb vd vo vr : Value} {xb xd xo xr : List Value} {h cap : Nat} {y : Value} (hs : s ≤ b) (hb : Blk w b 105 (bag4 vb vd vo vr)) (o1 : w.ownsRow s 23 1 vb xb.length xb) (o2 : w.ownsRow s 26 1 vd xd.length xd) (o3 : w.ownsRow s 27 1 vo xo.length xo) (o4 : w.ownsRow s 46 1 vr xr.length xr)
    (ht : Turned (fun i => vb.ownBlock = some i) w w1) (hown : w1.ownsRow s 23 1 (.slice (some ⟨h, 0, none⟩) (xb.length + 1) cap) (xb.length + 1) (xb ++ [y])) (hat : vb.ownBlock = some h ∨ w.heap.size ≤ h) :
    PutP b s (xb ++ [y]) xd xo xr w (.returned (.tuple #[])) (w1.setCell ⟨b, 4, none⟩ (.slice (some ⟨h, 0, none⟩) (xb.length + 1) cap)) := by
  have hvb : vb.ownBlock ≠ some b := fun e => by
    obtain ⟨cur, h1, _⟩ := owns_blk o1 e
    exact absurd (Blk.inj h1 hb).2 (by decide)
  have tA : Turned (fun i => i = b ∨ vb.ownBlock = some i) w (w1.setCell ⟨b, 4, none⟩ (.slice (some ⟨h, 0, none⟩) (xb.length + 1) cap)) := (ht.mono (fun _ e => .inl (.inr e))).setCell (.inl (.inl rfl)) _
  have hb1 := hb.turned ht hvb
  have kvd := owns_turned o2 tA (fun g hg e => by
    obtain ⟨c1, h1, _⟩ := owns_blk o2 hg
    rcases e with rfl | e
    · exact absurd (Blk.inj h1 hb).2 (by decide)
    · obtain ⟨c2, h2, _⟩ := owns_blk o1 e
      exact absurd (Blk.inj h1 h2).2 (by decide))
  have kvo := owns_turned o3 tA (fun g hg e => by
    obtain ⟨c1, h1, _⟩ := owns_blk o3 hg
    rcases e with rfl | e
    · exact absurd (Blk.inj h1 hb).2 (by decide)
    · obtain ⟨c2, h2, _⟩ := owns_blk o1 e
      exact absurd (Blk.inj h1 h2).2 (by decide))
  have kvr := owns_turned o4 tA (fun g hg e => by
    obtain ⟨c1, h1, _⟩ := owns_blk o4 hg
    rcases e with rfl | e
    · exact absurd (Blk.inj h1 hb).2 (by decide)
    · obtain ⟨c2, h2, _⟩ := owns_blk o1 e
      exact absurd (Blk.inj h1 h2).2 (by decide))
  have kk : (w1.setCell ⟨b, 4, none⟩ (.slice (some ⟨h, 0, none⟩) (xb.length + 1) cap)).ownsRow s 23 1 (.slice (some ⟨h, 0, none⟩) (xb.length + 1) cap) (xb ++ [y]).length (xb ++ [y]) := by
    rw [List.length_append]
    refine owns_turned hown ((Turned.refl (· = b) w1).setCell (.inl rfl) _) (fun g hg e => ?_)
    have e' : h = g := by simpa [Value.ownBlock] using hg
    subst e
    subst e'
    rcases hat with e2 | e2
    · exact hvb e2
    · have := hb.lt
      omega
  refine ⟨rfl, ⟨_, vd, vo, vr, by rw [← bag4_vb vb vd vo vr]; exact hb1.set_ 4 _, kk, kvd, kvo, kvr⟩, tA.mono (fun g e => ?_), fun r T cs hr h0 h1 h2 h3 h4 => ?_⟩
  · rcases e with rfl | e
    · exact .inl hs
    · obtain ⟨_, _, h2⟩ := owns_blk o1 e
      exact .inl h2
  · refine hr.turned tA (fun e => ?_)
    rcases e with rfl | e
    · exact h0 (Blk.inj hr hb).2
    · obtain ⟨c2, h5, _⟩ := owns_blk o1 e
      exact h1 (Blk.inj hr h5).2
set_option maxRecDepth 100000 in
set_option maxHeartbeats 1000000 in
theorem putBytes_any (b s : Nat) (xb xd xo xr : List Value) (A : Option Addr) (n c : Nat) (w : World) (h : BagIs w b s xb xd xo xr) (hs : s ≤ b) (hk : xb.length ≤ 1000) :
    Calls Tryz.prog 51 #[.pointer (some ⟨b, 0, none⟩), .slice A n c] w (PutP b s (xb ++ [.slice A n c]) xd xo xr w) := by
  obtain ⟨vb, vd, vo, vr, hb, o1, o2, o3, o4⟩ := h
  obtain ⟨i0, hi, hz0, hz1, hz2⟩ := info_parts bagIBytes
  have hI := Lib.hid (And.intro hi (And.intro hz0 (And.intro hz1 hz2)))
  have hb' := Lib.hid hb
  have ho' := Lib.hid (And.intro o1 (And.intro o2 (And.intro o3 o4)))
  have q4 : w.cell? ⟨b, 4, none⟩ = some vb := hb.cell 4
  have hbl := hb.lt
  have hvb' := Lib.hid (show ∀ g, vb.ownBlock = some g → g ≠ b from fun g e => by
    obtain ⟨cur, h1, _⟩ := owns_blk o1 e
    rintro rfl
    exact absurd (Blk.inj h1 hb).2 (by decide))
  have hl := Lib.hid (show ∀ g, vb.ownBlock = some g → s ≤ g from fun g e => (owns_blk o1 e).choose_spec.2)
  have o1' := Lib.hid o1
  clear hi hz0 hz1 hz2 hb o1 o2 o3 o4
  go_enter Tryz.func51, Tryz.ntmps51
  go_wp2_with (at_builtin; refine wpList_append_lies _ rfl (.tmp 8) (.tmp 10) 40 rfl s 23 i0 (.slice none 0 0) 1 24 Tryz.underlying40 hI.out.1 hI.out.2.1 hI.out.2.2.1 hI.out.2.2.2 rfl (by omega) vb xb.length xb rfl (o1'.out.alloc _) ⟨w.heap.size, 0, none⟩ 1 1 [.slice A n c] rfl rfl (cell_one_new _ _ _) (by simp [Value.oneCell']) (by omega) (by unfold maxLen; omega) (by omega) (by simp; omega) _ rfl ?_; intro h cap w1 hown hgr hat hlt; have hb1 := ((hb'.out.alloc _).grown hgr (fun e => hvb'.out b e.symm rfl)); have q4 : w1.cell? ⟨b, 4, none⟩ = some vb := hb1.cell 4; have q5 := hb1.frozen 4)
  go_end0
  refine putBytes_after hs hb'.out ho'.out.1 ho'.out.2.1 ho'.out.2.2.1 ho'.out.2.2.2 (((Turned.refl _ w).alloc _).grown hgr (fun g e => .inl e)) hown ?_
  rcases hat with e2 | e2
  · exact .inl e2
  · exact .inr (by simp at e2; omega)
theorem bagIDirties : (Tryz.prog.info? 26).map (fun i => (i.zero, i.size, i.bytes)) = some (some (.slice none 0 0), 1, 24) := by kernel_rfl
theorem putDirties_after {w w1 : World} {b s : Nat} {vb vd vo vr : Value} {xb xd xo xr : List Value} {h cap : Nat} {y : Value} (hs : s ≤ b) (hb : Blk w b 105 (bag4 vb vd vo vr)) (o1 : w.ownsRow s 23 1 vb xb.length xb) (o2 : w.ownsRow s 26 1 vd xd.length xd) (o3 : w.ownsRow s 27 1 vo xo.length xo) (o4 : w.ownsRow s 46 1 vr xr.length xr)
    (ht : Turned (fun i => vd.ownBlock = some i) w w1) (hown : w1.ownsRow s 26 1 (.slice (some ⟨h, 0, none⟩) (xd.length + 1) cap) (xd.length + 1) (xd ++ [y])) (hat : vd.ownBlock = some h ∨ w.heap.size ≤ h) :
    PutP b s xb (xd ++ [y]) xo xr w (.returned (.tuple #[])) (w1.setCell ⟨b, 18, none⟩ (.slice (some ⟨h, 0, none⟩) (xd.length + 1) cap)) := by
  have hvb : vd.ownBlock ≠ some b := fun e => by
    obtain ⟨cur, h1, _⟩ := owns_blk o2 e
    exact absurd (Blk.inj h1 hb).2 (by decide)
  have tA : Turned (fun i => i = b ∨ vd.ownBlock = some i) w (w1.setCell ⟨b, 18, none⟩ (.slice (some ⟨h, 0, none⟩) (xd.length + 1) cap)) := (ht.mono (fun _ e => .inl (.inr e))).setCell (.inl (.inl rfl)) _
  have hb1 := hb.turned ht hvb
  have kvb := owns_turned o1 tA (fun g hg e => by
    obtain ⟨c1, h1, _⟩ := owns_blk o1 hg
    rcases e with rfl | e
    · exact absurd (Blk.inj h1 hb).2 (by decide)
    · obtain ⟨c2, h2, _⟩ := owns_blk o2 e
      exact absurd (Blk.inj h1 h2).2 (by decide))
  have kvo := owns_turned o3 tA (fun g hg e => by
    obtain ⟨c1, h1, _⟩ := owns_blk o3 hg
    rcases e with rfl | e
    · exact absurd (Blk.inj h1 hb).2 (by decide)
    · obtain ⟨c2, h2, _⟩ := owns_blk o2 e
      exact absurd (Blk.inj h1 h2).2 (by decide))
  have kvr := owns_turned o4 tA (fun g hg e => by
    obtain ⟨c1, h1, _⟩ := owns_blk o4 hg
    rcases e with rfl | e
    · exact absurd (Blk.inj h1 hb).2 (by decide)
    · obtain ⟨c2, h2, _⟩ := owns_blk o2 e
      exact absurd (Blk.inj h1 h2).2 (by decide))
  have kk : (w1.setCell ⟨b, 18, none⟩ (.slice (some ⟨h, 0, none⟩) (xd.length + 1) cap)).ownsRow s 26 1 (.slice (some ⟨h, 0, none⟩) (xd.length + 1) cap) (xd ++ [y]).length (xd ++ [y]) := by
    rw [List.length_append]
    refine owns_turned hown ((Turned.refl (· = b) w1).setCell (.inl rfl) _) (fun g hg e => ?_)
    have e' : h = g := by simpa [Value.ownBlock] using hg
    subst e
    subst e'
    rcases hat with e2 | e2
    · exact hvb e2
    · have := hb.lt
      omega
  refine ⟨rfl, ⟨vb, _, vo, vr, by rw [← bag4_vd vb vd vo vr]; exact hb1.set_ 18 _, kvb, kk, kvo, kvr⟩, tA.mono (fun g e => ?_), fun r T cs hr h0 h1 h2 h3 h4 => ?_⟩
  · rcases e with rfl | e
    · exact .inl hs
    · obtain ⟨_, _, h2⟩ := owns_blk o2 e
      exact .inl h2
  · refine hr.turned tA (fun e => ?_)
    rcases e with rfl | e
    · exact h0 (Blk.inj hr hb).2
    · obtain ⟨c2, h5, _⟩ := owns_blk o2 e
      exact h2 (Blk.inj hr h5).2
set_option maxRecDepth 100000 in
set_option maxHeartbeats 1000000 in
theorem putDirties_any (b s : Nat) (xb xd xo xr : List Value) (A : Option Addr) (n c : Nat) (w : World) (h : BagIs w b s xb xd xo xr) (hs : s ≤ b) (hk : xd.length ≤ 1000) :
    Calls Tryz.prog 131 #[.pointer (some ⟨b, 0, none⟩), .slice A n c] w (PutP b s xb (xd ++ [.slice A n c]) xo xr w) := by
  obtain ⟨vb, vd, vo, vr, hb, o1, o2, o3, o4⟩ := h
  obtain ⟨i0, hi, hz0, hz1, hz2⟩ := info_parts bagIDirties
  have hI := Lib.hid (And.intro hi (And.intro hz0 (And.intro hz1 hz2)))
  have hb' := Lib.hid hb
  have ho' := Lib.hid (And.intro o1 (And.intro o2 (And.intro o3 o4)))
  have q4 : w.cell? ⟨b, 18, none⟩ = some vd := hb.cell 18
  have hbl := hb.lt
  have hvb' := Lib.hid (show ∀ g, vd.ownBlock = some g → g ≠ b from fun g e => by
    obtain ⟨cur, h1, _⟩ := owns_blk o2 e
    rintro rfl
    exact absurd (Blk.inj h1 hb).2 (by decide))
  have hl := Lib.hid (show ∀ g, vd.ownBlock = some g → s ≤ g from fun g e => (owns_blk o2 e).choose_spec.2)
  have o2' := Lib.hid o2
  clear hi hz0 hz1 hz2 hb o1 o2 o3 o4
  go_enter Tryz.func131, Tryz.ntmps131
  go_wp2_with (at_builtin; refine wpList_append_lies _ rfl (.tmp 8) (.tmp 10) 100 rfl s 26 i0 (.slice none 0 0) 1 24 Tryz.underlying100 hI.out.1 hI.out.2.1 hI.out.2.2.1 hI.out.2.2.2 rfl (by omega) vd xd.length xd rfl (o2'.out.alloc _) ⟨w.heap.size, 0, none⟩ 1 1 [.slice A n c] rfl rfl (cell_one_new _ _ _) (by simp [Value.oneCell']) (by omega) (by unfold maxLen; omega) (by omega) (by simp; omega) _ rfl ?_; intro h cap w1 hown hgr hat hlt; have hb1 := ((hb'.out.alloc _).grown hgr (fun e => hvb'.out b e.symm rfl)); have q4 : w1.cell? ⟨b, 18, none⟩ = some vd := hb1.cell 18; have q5 := hb1.frozen 18)
  go_end0
  refine putDirties_after hs hb'.out ho'.out.1 ho'.out.2.1 ho'.out.2.2.1 ho'.out.2.2.2 (((Turned.refl _ w).alloc _).grown hgr (fun g e => .inl e)) hown ?_
  rcases hat with e2 | e2
  · exact .inl e2
  · exact .inr (by simp at e2; omega)
theorem bagIOpens : (Tryz.prog.info? 27).map (fun i => (i.zero, i.size, i.bytes)) = some (some (.slice none 0 0), 1, 24) := by kernel_rfl
theorem putOpens_after {w w1 : World} {b s : Nat} {vb vd vo vr : Value} {xb xd xo xr : List Value} {h cap : Nat} {y : Value} (hs : s ≤ b) (hb : Blk w b 105 (bag4 vb vd vo vr)) (o1 : w.ownsRow s 23 1 vb xb.length xb) (o2 : w.ownsRow s 26 1 vd xd.length xd) (o3 : w.ownsRow s 27 1 vo xo.length xo) (o4 : w.ownsRow s 46 1 vr xr.length xr)
    (ht : Turned (fun i => vo.ownBlock = some i) w w1) (hown : w1.ownsRow s 27 1 (.slice (some ⟨h, 0, none⟩) (xo.length + 1) cap) (xo.length + 1) (xo ++ [y])) (hat : vo.ownBlock = some h ∨ w.heap.size ≤ h) :
    PutP b s xb xd (xo ++ [y]) xr w (.returned (.tuple #[])) (w1.setCell ⟨b, 19, none⟩ (.slice (some ⟨h, 0, none⟩) (xo.length + 1) cap)) := by
  have hvb : vo.ownBlock ≠ some b := fun e => by
    obtain ⟨cur, h1, _⟩ := owns_blk o3 e
    exact absurd (Blk.inj h1 hb).2 (by decide)
  have tA : Turned (fun i => i = b ∨ vo.ownBlock = some i) w (w1.setCell ⟨b, 19, none⟩ (.slice (some ⟨h, 0, none⟩) (xo.length + 1) cap)) := (ht.mono (fun _ e => .inl (.inr e))).setCell (.inl (.inl rfl)) _
  have hb1 := hb.turned ht hvb
  have kvb := owns_turned o1 tA (fun g hg e => by
    obtain ⟨c1, h1, _⟩ := owns_blk o1 hg
    rcases e with rfl | e
    · exact absurd (Blk.inj h1 hb).2 (by decide)
    · obtain ⟨c2, h2, _⟩ := owns_blk o3 e
      exact absurd (Blk.inj h1 h2).2 (by decide))
  have kvd := owns_turned o2 tA (fun g hg e => by
    obtain ⟨c1, h1, _⟩ := owns_blk o2 hg
    rcases e with rfl | e
    · exact absurd (Blk.inj h1 hb).2 (by decide)
    · obtain ⟨c2, h2, _⟩ := owns_blk o3 e
      exact absurd (Blk.inj h1 h2).2 (by decide))
  have kvr := owns_turned o4 tA (fun g hg e => by
    obtain ⟨c1, h1, _⟩ := owns_blk o4 hg
    rcases e with rfl | e
    · exact absurd (Blk.inj h1 hb).2 (by decide)
    · obtain ⟨c2, h2, _⟩ := owns_blk o3 e
      exact absurd (Blk.inj h1 h2).2 (by decide))
  have kk : (w1.setCell ⟨b, 19, none⟩ (.slice (some ⟨h, 0, none⟩) (xo.length + 1) cap)).ownsRow s 27 1 (.slice (some ⟨h, 0, none⟩) (xo.length + 1) cap) (xo ++ [y]).length (xo ++ [y]) := by
    rw [List.length_append]
    refine owns_turned hown ((Turned.refl (· = b) w1).setCell (.inl rfl) _) (fun g hg e => ?_)
    have e' : h = g := by simpa [Value.ownBlock] using hg
    subst e
    subst e'
    rcases hat with e2 | e2
    · exact hvb e2
    · have := hb.lt
      omega
  refine ⟨rfl, ⟨vb, vd, _, vr, by rw [← bag4_vo vb vd vo vr]; exact hb1.set_ 19 _, kvb, kvd, kk, kvr⟩, tA.mono (fun g e => ?_), fun r T cs hr h0 h1 h2 h3 h4 => ?_⟩
  · rcases e with rfl | e
    · exact .inl hs
    · obtain ⟨_, _, h2⟩ := owns_blk o3 e
      exact .inl h2
  · refine hr.turned tA (fun e => ?_)
    rcases e with rfl | e
    · exact h0 (Blk.inj hr hb).2
    · obtain ⟨c2, h5, _⟩ := owns_blk o3 e
      exact h3 (Blk.inj hr h5).2
set_option maxRecDepth 100000 in
set_option maxHeartbeats 1000000 in
theorem putOpens_any (b s : Nat) (xb xd xo xr : List Value) (A : Option Addr) (n c : Nat) (w : World) (h : BagIs w b s xb xd xo xr) (hs : s ≤ b) (hk : xo.length ≤ 1000) :
    Calls Tryz.prog 132 #[.pointer (some ⟨b, 0, none⟩), .slice A n c] w (PutP b s xb xd (xo ++ [.slice A n c]) xr w) := by
  obtain ⟨vb, vd, vo, vr, hb, o1, o2, o3, o4⟩ := h
  obtain ⟨i0, hi, hz0, hz1, hz2⟩ := info_parts bagIOpens
  have hI := Lib.hid (And.intro hi (And.intro hz0 (And.intro hz1 hz2)))
  have hb' := Lib.hid hb
  have ho' := Lib.hid (And.intro o1 (And.intro o2 (And.intro o3 o4)))
  have q4 : w.cell? ⟨b, 19, none⟩ = some vo := hb.cell 19
  have hbl := hb.lt
  have hvb' := Lib.hid (show ∀ g, vo.ownBlock = some g → g ≠ b from fun g e => by
    obtain ⟨cur, h1, _⟩ := owns_blk o3 e
    rintro rfl
    exact absurd (Blk.inj h1 hb).2 (by decide))
  have hl := Lib.hid (show ∀ g, vo.ownBlock = some g → s ≤ g from fun g e => (owns_blk o3 e).choose_spec.2)
  have o3' := Lib.hid o3
  clear hi hz0 hz1 hz2 hb o1 o2 o3 o4
  go_enter Tryz.func132, Tryz.ntmps132
  go_wp2_with (at_builtin; refine wpList_append_lies _ rfl (.tmp 8) (.tmp 10) 101 rfl s 27 i0 (.slice none 0 0) 1 24 Tryz.underlying101 hI.out.1 hI.out.2.1 hI.out.2.2.1 hI.out.2.2.2 rfl (by omega) vo xo.length xo rfl (o3'.out.alloc _) ⟨w.heap.size, 0, none⟩ 1 1 [.slice A n c] rfl rfl (cell_one_new _ _ _) (by simp [Value.oneCell']) (by omega) (by unfold maxLen; omega) (by omega) (by simp; omega) _ rfl ?_; intro h cap w1 hown hgr hat hlt; have hb1 := ((hb'.out.alloc _).grown hgr (fun e => hvb'.out b e.symm rfl)); have q4 : w1.cell? ⟨b, 19, none⟩ = some vo := hb1.cell 19; have q5 := hb1.frozen 19)
  go_end0
  refine putOpens_after hs hb'.out ho'.out.1 ho'.out.2.1 ho'.out.2.2.1 ho'.out.2.2.2 (((Turned.refl _ w).alloc _).grown hgr (fun g e => .inl e)) hown ?_
  rcases hat with e2 | e2
  · exact .inl e2
  · exact .inr (by simp at e2; omega)
theorem bagIRecords : (Tryz.prog.info? 46).map (fun i => (i.zero, i.size, i.bytes)) = some (some (.slice none 0 0), 1, 24) := by kernel_rfl
theorem putRecords_after {w w1 : World} {b s : Nat} {vb vd vo vr : Value} {xb xd xo xr : List Value} {h cap : Nat} {y : Value} (hs : s ≤ b) (hb : Blk w b 105 (bag4 vb vd vo vr)) (o1 : w.ownsRow s 23 1 vb xb.length xb) (o2 : w.ownsRow s 26 1 vd xd.length xd) (o3 : w.ownsRow s 27 1 vo xo.length xo) (o4 : w.ownsRow s 46 1 vr xr.length xr)
    (ht : Turned (fun i => vr.ownBlock = some i) w w1) (hown : w1.ownsRow s 46 1 (.slice (some ⟨h, 0, none⟩) (xr.length + 1) cap) (xr.length + 1) (xr ++ [y])) (hat : vr.ownBlock = some h ∨ w.heap.size ≤ h) :
    PutP b s xb xd xo (xr ++ [y]) w (.returned (.tuple #[])) (w1.setCell ⟨b, 20, none⟩ (.slice (some ⟨h, 0, none⟩) (xr.length + 1) cap)) := by
  have hvb : vr.ownBlock ≠ some b := fun e => by
    obtain ⟨cur, h1, _⟩ := owns_blk o4 e
    exact absurd (Blk.inj h1 hb).2 (by decide)
  have tA : Turned (fun i => i = b ∨ vr.ownBlock = some i) w (w1.setCell ⟨b, 20, none⟩ (.slice (some ⟨h, 0, none⟩) (xr.length + 1) cap)) := (ht.mono (fun _ e => .inl (.inr e))).setCell (.inl (.inl rfl)) _
  have hb1 := hb.turned ht hvb
  have kvb := owns_turned o1 tA (fun g hg e => by
    obtain ⟨c1, h1, _⟩ := owns_blk o1 hg
    rcases e with rfl | e
    · exact absurd (Blk.inj h1 hb).2 (by decide)
    · obtain ⟨c2, h2, _⟩ := owns_blk o4 e
      exact absurd (Blk.inj h1 h2).2 (by decide))
  have kvd := owns_turned o2 tA (fun g hg e => by
    obtain ⟨c1, h1, _⟩ := owns_blk o2 hg
    rcases e with rfl | e
    · exact absurd (Blk.inj h1 hb).2 (by decide)
    · obtain ⟨c2, h2, _⟩ := owns_blk o4 e
      exact absurd (Blk.inj h1 h2).2 (by decide))
  have kvo := owns_turned o3 tA (fun g hg e => by
    obtain ⟨c1, h1, _⟩ := owns_blk o3 hg
    rcases e with rfl | e
    · exact absurd (Blk.inj h1 hb).2 (by decide)
    · obtain ⟨c2, h2, _⟩ := owns_blk o4 e
      exact absurd (Blk.inj h1 h2).2 (by decide))
  have kk : (w1.setCell ⟨b, 20, none⟩ (.slice (some ⟨h, 0, none⟩) (xr.length + 1) cap)).ownsRow s 46 1 (.slice (some ⟨h, 0, none⟩) (xr.length + 1) cap) (xr ++ [y]).length (xr ++ [y]) := by
    rw [List.length_append]
    refine owns_turned hown ((Turned.refl (· = b) w1).setCell (.inl rfl) _) (fun g hg e => ?_)
    have e' : h = g := by simpa [Value.ownBlock] using hg
    subst e
    subst e'
    rcases hat with e2 | e2
    · exact hvb e2
    · have := hb.lt
      omega
  refine ⟨rfl, ⟨vb, vd, vo, _, by rw [← bag4_vr vb vd vo vr]; exact hb1.set_ 20 _, kvb, kvd, kvo, kk⟩, tA.mono (fun g e => ?_), fun r T cs hr h0 h1 h2 h3 h4 => ?_⟩
  · rcases e with rfl | e
    · exact .inl hs
    · obtain ⟨_, _, h2⟩ := owns_blk o4 e
      exact .inl h2
  · refine hr.turned tA (fun e => ?_)
    rcases e with rfl | e
    · exact h0 (Blk.inj hr hb).2
    · obtain ⟨c2, h5, _⟩ := owns_blk o4 e
      exact h4 (Blk.inj hr h5).2
set_option maxRecDepth 100000 in
set_option maxHeartbeats 1000000 in
theorem oneTurn_any (b s : Nat) (xb xd xo xr : List Value) (K O N : Sl) (w : World) (h : BagIs w b s xb xd xo xr) (hs : s ≤ b) (hsz : s ≤ w.heap.size) (hk : xb.length ≤ 900) :
    Calls Tryz.prog 130 #[.pointer (some ⟨b, 0, none⟩), .agg #[.slice K.A K.n K.c, .slice O.A O.n O.c, .slice N.A N.n N.c]] w (PutP b s (xb ++ [.slice K.A K.n K.c] ++ [.slice O.A O.n O.c] ++ [.slice N.A N.n N.c]) xd xo xr w) := by
  have h' := Lib.hid h
  clear h
  go_enter Tryz.func130, Tryz.ntmps130
  go_wp2_with fail
  have B0 := Lib.hid (Blk.new w 25 #[.slice K.A K.n K.c, .slice O.A O.n O.c, .slice N.A N.n N.c])
  have T0 := (Turned.refl (fun _ => False) w).alloc (.cells #[.slice K.A K.n K.c, .slice O.A O.n O.c, .slice N.A N.n N.c] 25)
  have H0 := Lib.hid (h'.out.fresh T0)
  have U0 := Lib.hid T0
  clear T0
  refine (putBytes_any b s xb xd xo xr K.A K.n K.c _ H0.out hs (by omega)).mono ?_
  rintro e w1 ⟨rfl, H1, T1, K1⟩
  have H1 := Lib.hid H1
  have T1 := Lib.hid T1
  have B1 := Lib.hid (K1 _ _ _ B0.out (by decide) (by decide) (by decide) (by decide) (by decide))
  have K1 := Lib.hid K1
  have q1 := B1.out.cell 1
  simp only [List.getElem?_toArray, List.getElem?_cons_succ, List.getElem?_cons_zero] at q1
  go_wp2_with fail
  refine (putBytes_any b s _ xd xo xr O.A O.n O.c _ H1.out hs (by simp; omega)).mono ?_
  rintro e w2 ⟨rfl, H2, T2, K2⟩
  have H2 := Lib.hid H2
  have T2 := Lib.hid T2
  have B2 := Lib.hid (K2 _ _ _ B1.out (by decide) (by decide) (by decide) (by decide) (by decide))
  have K2 := Lib.hid K2
  have q2 := B2.out.cell 2
  simp only [List.getElem?_toArray, List.getElem?_cons_succ, List.getElem?_cons_zero] at q2
  clear q1
  go_wp2_with fail
  refine (putBytes_any b s _ xd xo xr N.A N.n N.c _ H2.out hs (by simp; omega)).mono ?_
  rintro e w3 ⟨rfl, H3, T3, K3⟩
  have H3 := Lib.hid H3
  have T3 := Lib.hid T3
  have K3 := Lib.hid K3
  clear q2
  go_wp2_with fail
  go_end0
  exact ⟨rfl, H3.out, (((U0.out.mono (fun _ e => e.elim)).trans (W := fun i => s ≤ i) T1.out (fun _ e => e) (fun _ e => .inl e)).trans (W := fun i => s ≤ i) T2.out (fun _ e => e) (fun _ e => .inl e)).trans (W := fun i => s ≤ i) T3.out (fun _ e => e) (fun _ e => .inl e), (((Keeps.fresh U0.out).trans K1.out).trans K2.out).trans K3.out⟩
set_option maxRecDepth 100000 in
set_option maxHeartbeats 1000000 in
theorem oneRec_any (b s : Nat) (xb xd xo xr : List Value) (R : Rec) (S : RecS) (w : World) (h : BagIs w b s xb xd xo xr) (hs : s ≤ b) (hsz : s ≤ w.heap.size) (hk : xb.length ≤ 900) (hkd : xd.length ≤ 900) (hko : xo.length ≤ 900) :
    Calls Tryz.prog 102 #[.pointer (some ⟨b, 0, none⟩), .agg (recC R S)] w (PutP b s (xb ++ [.slice S.K.A S.K.n S.K.c] ++ [.slice S.O.A S.O.n S.O.c] ++ [.slice S.N.A S.N.n S.N.c]) (xd ++ [.slice S.D.A S.D.n S.D.c]) (xo ++ [.slice S.P.A S.P.n S.P.c]) xr w) := by
  have h' := Lib.hid h
  clear h
  unfold recC
  go_enter Tryz.func102, Tryz.ntmps102
  go_wp2_with fail
  have B0 := Lib.hid (Blk.new w 29 (recC R S))
  have T0 := (Turned.refl (fun _ => False) w).alloc (.cells (recC R S) 29)
  have H0 := Lib.hid (h'.out.fresh T0)
  have U0 := Lib.hid T0
  clear T0
  unfold recC at B0 H0 U0
  refine (oneTurn_any b s xb xd xo xr S.K S.O S.N _ H0.out hs (by simp; omega) (by omega)).mono ?_
  rintro e w1 ⟨rfl, H1, T1, K1⟩
  have H1 := Lib.hid H1
  have T1 := Lib.hid T1
  have B1 := Lib.hid (K1 _ _ _ B0.out (by decide) (by decide) (by decide) (by decide) (by decide))
  have K1 := Lib.hid K1
  have q1 := B1.out.cell 9
  simp only [List.getElem?_toArray, List.getElem?_cons_succ, List.getElem?_cons_zero] at q1
  go_wp2_with fail
  refine (putDirties_any b s _ xd xo xr S.D.A S.D.n S.D.c _ H1.out hs (by omega)).mono ?_
  rintro e w2 ⟨rfl, H2, T2, K2⟩
  have H2 := Lib.hid H2
  have T2 := Lib.hid T2
  have B2 := Lib.hid (K2 _ _ _ B1.out (by decide) (by decide) (by decide) (by decide) (by decide))
  have K2 := Lib.hid K2
  have q2 := B2.out.cell 10
  simp only [List.getElem?_toArray, List.getElem?_cons_succ, List.getElem?_cons_zero] at q2
  clear q1
  go_wp2_with fail
  refine (putOpens_any b s _ _ xo xr S.P.A S.P.n S.P.c _ H2.out hs (by omega)).mono ?_
  rintro e w3 ⟨rfl, H3, T3, K3⟩
  have H3 := Lib.hid H3
  have T3 := Lib.hid T3
  have K3 := Lib.hid K3
  clear q2
  go_wp2_with fail
  go_end0
  exact ⟨rfl, H3.out, (((U0.out.mono (fun _ e => e.elim)).trans (W := fun i => s ≤ i) T1.out (fun _ e => e) (fun _ e => .inl e)).trans (W := fun i => s ≤ i) T2.out (fun _ e => e) (fun _ e => .inl e)).trans (W := fun i => s ≤ i) T3.out (fun _ e => e) (fun _ e => .inl e), (((Keeps.fresh U0.out).trans K1.out).trans K2.out).trans K3.out⟩
def orB (k : Nat) (l : List Value) : List Value := if k = 0 then [] else l
def PutR1 (b s : Nat) (xb xd xo xr : List Value) (S : RecS) (w : World) (i : Value) (wr : World) : Prop := ∃ k : Nat, k ≤ 1 ∧ i = .int .i64 k ∧ BagIs wr b s (xb ++ orB k ([.slice S.K.A S.K.n S.K.c] ++ [.slice S.O.A S.O.n S.O.c] ++ [.slice S.N.A S.N.n S.N.c])) (xd ++ orB k [.slice S.D.A S.D.n S.D.c]) (xo ++ orB k [.slice S.P.A S.P.n S.P.c]) xr ∧ Turned (fun i => s ≤ i) w wr ∧ Keeps w wr
set_option maxRecDepth 100000 in
set_option maxHeartbeats 1000000 in
theorem putRec_any (b s g cg : Nat) (xb xd xo xr : List Value) (R : Rec) (S : RecS) (w : World) (h : BagIs w b s xb xd xo xr) (hs : s ≤ b) (hg : g < s) (hsz : s ≤ w.heap.size) (hr : Blk w g 29 (recC R S)) (hk : xb.length ≤ 800) (hkd : xd.length ≤ 800) (hko : xo.length ≤ 800) (hkr : xr.length ≤ 800) :
    Calls Tryz.prog 68 #[.pointer (some ⟨b, 0, none⟩), .slice (some ⟨g, 0, none⟩) 1 cg] w (PutP b s (xb ++ ([.slice S.K.A S.K.n S.K.c] ++ [.slice S.O.A S.O.n S.O.c] ++ [.slice S.N.A S.N.n S.N.c])) (xd ++ [.slice S.D.A S.D.n S.D.c]) (xo ++ [.slice S.P.A S.P.n S.P.c]) (xr ++ [.slice (some ⟨g, 0, none⟩) 1 cg]) w) := by
  obtain ⟨vb, vd, vo, vr, hb, o1, o2, o3, o4⟩ := h
  obtain ⟨i0, hi, hz0, hz1, hz2⟩ := info_parts bagIRecords
  have hI := Lib.hid (And.intro hi (And.intro hz0 (And.intro hz1 hz2)))
  have hb' := Lib.hid hb
  have hr' := Lib.hid hr
  have ho' := Lib.hid (And.intro o1 (And.intro o2 (And.intro o3 o4)))
  have q4 : w.cell? ⟨b, 20, none⟩ = some vr := hb.cell 20
  have hbl := hb.lt
  have hvb' := Lib.hid (show ∀ g, vr.ownBlock = some g → g ≠ b from fun g e => by
    obtain ⟨cur, h1, _⟩ := owns_blk o4 e
    rintro rfl
    exact absurd (Blk.inj h1 hb).2 (by decide))
  have o4' := Lib.hid o4
  clear hi hz0 hz1 hz2 hb o1 o2 o3 o4 hr
  go_enter Tryz.func68, Tryz.ntmps68
  go_wp2_with (at_builtin; refine wpList_append_lies _ rfl (.tmp 9) (.tmp 11) 47 rfl s 46 i0 (.slice none 0 0) 1 24 Tryz.underlying47 hI.out.1 hI.out.2.1 hI.out.2.2.1 hI.out.2.2.2 rfl (by omega) vr xr.length xr rfl (o4'.out.alloc _) ⟨w.heap.size, 0, none⟩ 1 1 [.slice (some ⟨g, 0, none⟩) 1 cg] rfl rfl (cell_one_new _ _ _) (by simp [Value.oneCell']) (by omega) (by unfold maxLen; omega) (by omega) (by simp; omega) _ rfl ?_; intro h cap w1 hown hgr hat hlt; have hb1 := ((hb'.out.alloc _).grown hgr (fun e => hvb'.out b e.symm rfl)); have q4 : w1.cell? ⟨b, 20, none⟩ = some vr := hb1.cell 20; have q5 := hb1.frozen 20)
  have hP := putRecords_after hs hb'.out ho'.out.1 ho'.out.2.1 ho'.out.2.2.1 ho'.out.2.2.2 (((Turned.refl _ w).alloc _).grown hgr (fun g e => .inl e)) hown (by
    rcases hat with e2 | e2
    · exact .inl e2
    · exact .inr (by simp at e2; omega))
  have hP' := Lib.hid (And.intro hP.2.1 hP.2.2)
  clear hP hb1 hown hgr hat hlt q4 q5
  go_loopw [4] (fun i wr => PutR1 b s xb xd xo (xr ++ [.slice (some ⟨g, 0, none⟩) 1 cg]) S w i wr) (fun i _ => 1 - (intOf i).toNat)
  case atStart => exact ⟨0, by omega, rfl, by simpa [orB] using hP'.out.1, hP'.out.2.1, hP'.out.2.2⟩
  case round =>
    clear hP'
    obtain ⟨k, hk1, rfl, hB, hT, hK⟩ := hrel
    have hB := Lib.hid hB
    have hT := Lib.hid hT
    have hK := Lib.hid hK
    by_cases hk0 : k = 0
    · subst hk0
      have hr2 := hr'.out.turned hT.out (by omega)
      unfold recC at hr2
      have c0 := hr2.cell 0
      have c1 := hr2.cell 1
      have c2 := hr2.cell 2
      have c3 := hr2.cell 3
      have c4 := hr2.cell 4
      have c5 := hr2.cell 5
      have c6 := hr2.cell 6
      have c7 := hr2.cell 7
      have c8 := hr2.cell 8
      have c9 := hr2.cell 9
      have c10 := hr2.cell 10
      simp only [List.getElem?_toArray, List.getElem?_cons_succ, List.getElem?_cons_zero] at c0 c1 c2 c3 c4 c5 c6 c7 c8 c9 c10
      clear hr2
      have hsz2 := hT.out.size
      go_wp2_with fail
      refine (oneRec_any b s xb xd xo _ R S _ (by simpa [orB] using hB.out) hs (by omega) (by omega) (by omega) (by omega)).mono ?_
      rintro e w2 ⟨rfl, H2, T2, K2⟩
      have hR := Lib.hid (show PutR1 b s xb xd xo (xr ++ [.slice (some ⟨g, 0, none⟩) 1 cg]) S w (.int .i64 ((1 : Nat) : Int)) w2 from ⟨1, by omega, rfl, by simpa [orB] using H2, hT.out.trans (W := fun i => s ≤ i) T2 (fun _ e => e) (fun _ e => .inl e), hK.out.trans K2⟩)
      clear H2 T2 K2
      go_wp2_with fail
      go_roundw
      case rel => exact hR.out
      case measure => simp [intOf]
    · have hk2 : k = 1 := by omega
      subst hk2
      go_wp2_with fail
      go_end0
      exact ⟨rfl, by simpa [orB] using hB.out, hT.out, hK.out⟩
end Go.Proofs.YtohajofkflibjaaGreatDoor

