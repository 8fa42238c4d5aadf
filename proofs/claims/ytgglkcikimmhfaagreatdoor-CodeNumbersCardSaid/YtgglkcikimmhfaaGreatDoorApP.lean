/-
  A bag that gathers rows of bytes: putBytes.
-/
import Derived.Test.YtgglkcikimmhfaaGreatDoorFlB
namespace Go.Proofs.YtgglkcikimmhfaaGreatDoor
open Go.RowKit Go.Maps
set_option linter.unusedVariables false

/-- A bag that holds rows of bytes alone. -/
def bagB (v : Value) : Array Value := #[.slice none 0 0, .slice none 0 0, .slice none 0 0, .slice none 0 0, v, .slice none 0 0, .slice none 0 0, .slice none 0 0, .slice none 0 0, .slice none 0 0, .slice none 0 0, .slice none 0 0, .slice none 0 0, .slice none 0 0, .slice none 0 0, .slice none 0 0, .slice none 0 0, .slice none 0 0, .slice none 0 0, .slice none 0 0, .slice none 0 0, .slice none 0 0, .slice none 0 0]
theorem bagB_set (v v' : Value) : (bagB v).setIfInBounds 4 v' = bagB v' := rfl
theorem slinfo2 : (Tryz.prog.info? 22).map (fun i => (i.zero, i.size, i.bytes)) = some (some (.slice none 0 0), 1, 24) := by kernel_rfl
def PutBPost (b : Nat) (s k : Nat) (xs : List Value) (x : Value) (w : World) (e : Ending) (w' : World) : Prop :=
  ∃ h cap, e = .returned (.tuple #[]) ∧ Blk w' b 84 (bagB (.slice (some ⟨h, 0, none⟩) (k + 1) cap)) ∧ w'.ownsRow s 22 1 (.slice (some ⟨h, 0, none⟩) (k + 1) cap) (k + 1) (xs ++ [x]) ∧ Turned (fun i => s ≤ i) w w'
set_option maxRecDepth 100000 in
set_option maxHeartbeats 1000000 in
theorem putB_any (b s k : Nat) (v : Value) (xs : List Value) (A : Option Addr) (n c : Nat) (w : World) (hb : Blk w b 84 (bagB v)) (hs : s ≤ b) (ho : w.ownsRow s 22 1 v k xs) (hk : k ≤ 1000) :
    Calls Tryz.prog 33 #[.pointer (some ⟨b, 0, none⟩), .slice A n c] w (PutBPost b s k xs (.slice A n c) w) := by
  obtain ⟨i0, hi, hz0, hz1, hz2⟩ := info_parts slinfo2
  have hI := Lib.hid (And.intro hi (And.intro hz0 (And.intro hz1 hz2)))
  have hb' := Lib.hid hb
  have ho' := Lib.hid ho
  have q4 : w.cell? ⟨b, 4, none⟩ = some v := hb.cell 4
  have hbl := hb.lt
  have hbv : ∀ g, v.ownBlock = some g → g ≠ b := by
    rintro g hg rfl
    rcases ho.2 with ⟨rfl, _⟩ | ⟨g', cap, cur, rfl, _, h2, _⟩
    · cases hg
    · have e : g' = g := by simpa [Value.ownBlock] using hg
      subst e
      have := Blk.inj (show Blk w g' 22 cur from h2) hb
      exact absurd this.2 (by decide)
  have hbv' := Lib.hid hbv
  clear hi hz0 hz1 hz2 hb ho hbv
  go_enter Tryz.func33, Tryz.ntmps33
  go_wp2_with (at_builtin; refine wpList_append_lies _ rfl (.tmp 8) (.tmp 10) 39 rfl s 22 i0 (.slice none 0 0) 1 24 Tryz.underlying39 hI.out.1 hI.out.2.1 hI.out.2.2.1 hI.out.2.2.2 rfl (by omega) v k xs rfl (ho'.out.alloc _) ⟨w.heap.size, 0, none⟩ 1 1 [.slice A n c] rfl rfl (cell_one_new _ _ _) (by simp [Value.oneCell']) (by omega) (by unfold maxLen; omega) (by omega) (by simp; omega) _ rfl ?_; intro h cap w1 hown hgr hat hlt; have hb1 := ((hb'.out.alloc _).grown hgr (fun e => hbv'.out b e.symm rfl)); have q4 : w1.cell? ⟨b, 4, none⟩ = some v := hb1.cell 4; have q5 := hb1.frozen 4)
  go_end0
  refine ⟨h, cap, rfl, ?_, ?_, ?_⟩
  · rw [← bagB_set v]
    exact hb1.set_ 4 _
  · refine hown.kept (row := some b) ⟨rfl, rfl, rfl, by simp [World.setCell], fun k _ hk => Below.heap_setCell w1 ⟨b, 4, none⟩ _ k (fun e => hk (by rw [e]))⟩ (.inr ?_)
    intro e
    have e' : h = b := by simpa [Value.ownBlock] using e
    rcases hat with e2 | e2
    · exact hbv'.out h e2 e'
    · simp at e2; omega
  · exact (((Turned.refl _ w).alloc _).grown hgr (fun g e => .inl ((ho'.out.lt g e).1))).setCell (.inl hs) _

end Go.Proofs.YtgglkcikimmhfaaGreatDoor
