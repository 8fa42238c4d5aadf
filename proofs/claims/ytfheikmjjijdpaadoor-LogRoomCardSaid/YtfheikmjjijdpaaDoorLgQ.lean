/-
  storemanlaw20.LogNone: logs that aren't there answer nothing; stretches that may not be are refused. Conditions: none but the record's own.
-/
import Derived.Test.YtfheikmjjijdpaaDoorLgO
import Derived.Test.YtfheikmjjijdpaaDoorRecK
namespace Go.Proofs.YtfheikmjjijdpaaDoor
open Go.RowKit Go.Maps
set_option linter.unusedVariables false
set_option linter.unusedSimpArgs false

def SomeB (w : World) (e : Ending) (w' : World) : Prop := ∃ b, e = .returned (.bool b) ∧ Turned (fun _ => False) w w'
theorem zero_is (w : World) : RecIs w Rec.zero RecS.nil := by
  have hb : SlB w Sl.nil [] := ⟨⟨BytR.none_ w, fun _ => ⟨rfl, rfl⟩⟩, Nat.le_refl _, by unfold Sl.nil maxLen; simp, Nat.zero_le _⟩
  have hp : SlP w Sl.nil [] := ⟨CelR.none_ w, rfl, fun _ => ⟨rfl, rfl⟩, Nat.le_refl _, by unfold Sl.nil maxLen; simp, Nat.zero_le _⟩
  exact ⟨hb, hb, hb, hp, hp⟩
theorem no_logs {w3 : World} {L : Nat} {b c d e : Value} {f g : Value} (hz : Blk w3 L 65 #[.pointer none, b, c, d, e, f, g]) (hy : Blk w3 (L + 1) 24 #[.pointer none, .pointer (some ⟨L, 0, none⟩)]) (k : Nat) (hk : k < 2) : ∃ p, ∀ w', Turned (fun _ => False) w3 w' → w'.cell? ⟨L + 1, k, none⟩ = some (.pointer p) ∧ NoLog p w' := by
  rcases (show k = 0 ∨ k = 1 by omega) with rfl | rfl
  · exact ⟨none, fun w' t => ⟨(hy.turned t (fun e => e)).cell 0, .inl rfl⟩⟩
  · exact ⟨some ⟨L, 0, none⟩, fun w' t => ⟨(hy.turned t (fun e => e)).cell 1, .inr ⟨L, rfl, (hz.turned t (fun e => e)).cell 0⟩⟩⟩
set_option maxRecDepth 100000 in
set_option maxHeartbeats 2000000 in
theorem small20_any (R : Rec) (S : RecS) (w : World) (h : RecIs w R S) : Calls Tryd.prog 13 #[.agg (recC R S)] w (SomeB w) := by
  have b1 := h.key.few; have b2 := h.old.few; have b3 := h.new.few; have b4 := h.dirty.few; have b5 := h.opn.few
  have T0 := Lib.hid ((Turned.refl (fun _ => False) w).alloc (.cells (recC R S) 39))
  clear h
  obtain ⟨lsn, work, prev, next, kind, page, key, old, new, dirty, opn⟩ := R
  obtain ⟨⟨KA, Kn, Kc⟩, ⟨OA, On, Oc⟩, ⟨NA, Nn, Nc⟩, ⟨DA, Dn, Dc⟩, ⟨PA, Pn, Pc⟩⟩ := S
  unfold recC at *
  simp only at *
  by_cases h1 : (Kn : Int) + (On : Int) + (Nn : Int) ≤ 2000
  · by_cases h2 : (Dn : Int) + (Pn : Int) ≤ 300
    · go_enter Tryd.func13, Tryd.ntmps13
      go_wp2
      go_ret
      exact ⟨_, rfl, T0.out⟩
    · go_enter Tryd.func13, Tryd.ntmps13
      go_wp2
      go_ret
      exact ⟨_, rfl, T0.out⟩
  · go_enter Tryd.func13, Tryd.ntmps13
    go_wp2
    go_ret
    exact ⟨_, rfl, T0.out⟩
end Go.Proofs.YtfheikmjjijdpaaDoor
