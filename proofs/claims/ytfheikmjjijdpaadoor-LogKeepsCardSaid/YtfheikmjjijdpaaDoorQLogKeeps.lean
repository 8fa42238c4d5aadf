/-
  LogKeeps: what was safe is kept over crashes, nothing of a time before comes back.
-/
import Derived.Test.YtfheikmjjijdpaaDoorCards
import Derived.Test.YtfheikmjjijdpaaDoorQKwL
import Derived.Test.YtfheikmjjijdpaaDoorQKmX
import Derived.Test.YtfheikmjjijdpaaDoorQOpK
import Derived.Test.YtfheikmjjijdpaaDoorTie
import Derived.ProofKit
import Derived.OpenShut
import Derived.LaidMore
import Derived.Lay
import Derived.SevenTiedAt
import Derived.Stop.Joined
import Derived.Stop.LaidErr
import Derived.Carry
import Derived.SizedLaws
namespace Go.Proofs.YtfheikmjjijdpaaDoor.logKeeps
open Go.ChangeShapes Go.WideShapes Go.ChangeAt Go.RowKit
open Go.ChangeMaps (open_string shut_string)
set_option linter.unusedVariables false

theorem laidOut : laidOutB Tryd.prog = true := by kernel_rfl
theorem own : ownKnob Tryd.prog.godebug = none := by kernel_rfl

set_option maxRecDepth 100000 in
theorem lifted (os : Os) (started : os.Started) (H : Type) (enc : TypeId × Value → H) :
    ReturnsInHanded {} Tryd.checked os 4 .any (fun w args => (Rows.logKeepsSpec.pre enc Tryd.prog Tryd.f4 Rows.logKeepsRow.domain false w args ∧ laidMetH Tryd.prog Rows.logKeepsRow.laid w) ∧ sizedMet enc Tryd.prog Tryd.f4 (OpenSpec.ofChange Rows.logKeepsSpec) false w args)
      (Rows.logKeepsSpec.post enc Tryd.prog Tryd.f4 false true false false) := by
  refine returnsInHanded_of_change_and (C := Tryd.checked) (X := fun w _ => laidMetH Tryd.prog Rows.logKeepsRow.laid w) (fun _ _ _ hh h => h.of_heap hh) own started (by kernel_rfl) Tryd.func4
    (ChangeSpec.witness_shaped (enc := enc) (C := Tryd.checked) (os := os) (X := fun w _ => laidMetH Tryd.prog Rows.logKeepsRow.laid w) false (World.laidAll Tryd.prog os Rows.logKeepsRow.laid) #[.slice none 0 0, .slice none 0 0, .slice none 0 0] 8 (World.laidAll_os _ _ _)
      (World.shaped_of_ZipB (by kernel_rfl) (by kernel_rfl)) (by kernel_rfl) (by kernel_rfl) (by kernel_rfl)
      (by rw [MakeChecks.laidMetH_plain _ _ _ (by kernel_rfl)]; exact laidMet_laidAll _ (by kernel_rfl) (by kernel_rfl))) ?_
  intro W base args ds gs before hval0 hW _ hsz0 hL _
  have hval : ∀ (j : Nat) t v, Tryd.f4.params[j]? = some t → args[j]? = some v → Value.okWide Tryd.prog W .any base t v := hval0
  have hW' := hW
  obtain ⟨p, q, hA0, hV, rfl, hfz, hnd⟩ := hW
  have hA : DataW.TrodAll enc Tryd.prog W 0 (fun _ => true) true Tryd.f4.params.toList args.toList ds p := hA0
  rw [Tryd.params4] at hA hval
  have hlt := hA.lt
  obtain ⟨v0, vs0, d0, ds0, p0, q0, hargs, rfl, rfl, h0, r0⟩ := trodAll_cons hA
  obtain ⟨v1, vs1, d1, ds1, p1, q1, rfl, rfl, rfl, h1, r1⟩ := trodAll_cons r0
  obtain ⟨v2, vs2, d2, ds2, p2, q2, rfl, rfl, rfl, h2, r2⟩ := trodAll_cons r1
  obtain ⟨rfl, rfl, rfl⟩ := trodAll_nil r2
  obtain rfl : args = #[v0, v1, v2] := by cases args; simp_all
  obtain ⟨rfl, rfl⟩ := trodVars_none hV
  have hlt0 : ∀ x ∈ p0, x.block < W.heap.size := fun x hx => hlt x (by simp [hx])
  have hlt1 : ∀ x ∈ p1, x.block < W.heap.size := fun x hx => hlt x (by simp [hx])
  have hlt2 : ∀ x ∈ p2, x.block < W.heap.size := fun x hx => hlt x (by simp [hx])
  have hsz : (DataW.weightsEach Tryd.prog ([22, 46, 47] ++ (Rows.logKeepsSpec.plain.varTypes Tryd.prog)) ([d0, d1, d2] ++ [])).all (· ≤ reachBytes) = true := hsz0
  obtain ⟨sb0, sl0, sc0, rfl⟩ := okWide_slice Tryd.underlying22 (hval 0 22 v0 rfl rfl)
  obtain ⟨fuel0, ht0⟩ := id h0
  obtain ⟨A0, n0, cc0, zs0, es0, hX0⟩ := open_longs ht0
  obtain ⟨rfl, rfl, rfl⟩ : sb0 = A0 ∧ sl0 = n0 ∧ sc0 = cc0 := by simpa using es0
  obtain ⟨sb1, sl1, sc1, rfl⟩ := okWide_slice Tryd.underlying46 (hval 1 46 v1 rfl rfl)
  obtain ⟨fuel1, ht1⟩ := id h1
  obtain ⟨A1, n1, cc1, zs1, es1, hX1⟩ := open_recs ht1 (sized_each hsz (j := 1) rfl rfl)
  obtain ⟨rfl, rfl, rfl⟩ : sb1 = A1 ∧ sl1 = n1 ∧ sc1 = cc1 := by simpa using es1
  obtain ⟨sb2, sl2, sc2, rfl⟩ := okWide_slice Tryd.underlying47 (hval 2 47 v2 rfl rfl)
  obtain ⟨fuel2, ht2⟩ := id h2
  obtain ⟨A2, n2, cc2, es2, hX2⟩ := open_fatL hlt2 ht2
  obtain ⟨rfl, rfl, rfl⟩ : sb2 = A2 ∧ sl2 = n2 ∧ sc2 = cc2 := by simpa using es2
  clear hA0 hval0
  simp only [List.append_nil] at hW'
  refine (logKeeps_any sb0 sl0 sc0 zs0 sb1 sl1 sc1 zs1 sb2 sl2 sc2 W hX0 hX1 hX2).mono fun e W' ⟨he, hg⟩ => ?_
  subst he
  have hB := hg.below (fun _ e => e.elim)
  exact ⟨_, rfl, _, _, _, [], _, [], hW', trodAll_cons_mk (shut_bool Tryd.underlying4 _) trodAll_mk0, trodAll_cons_mk (Below.trod laidOut (by kernel_rfl) (of_decide_eq_true (by kernel_rfl)) h0 hB hlt0) (trodAll_cons_mk (Below.trod laidOut (by kernel_rfl) (of_decide_eq_true (by kernel_rfl)) h1 hB hlt1) (trodAll_cons_mk (Below.trod laidOut (by kernel_rfl) (of_decide_eq_true (by kernel_rfl)) h2 hB hlt2) trodAll_mk0)), rfl, hB.frame _, fun h => by cases h⟩

theorem over : Rows.logKeepsRow.holds Tryd.pinned (OpenSpec.ofChange Rows.logKeepsSpec) :=
  OpenClaim.holds_of_wide 4 Tryd.f4 rfl rfl rfl rfl rfl rfl rfl ⟨rfl, rfl, rfl, rfl, rfl⟩ rfl rfl rfl rfl rfl (by kernel_rfl) Tryd.func4 (by kernel_rfl)
    (of_decide_eq_true (by kernel_rfl)) (by unfold Func.isWrapper; first | (rw [if_pos (by decide +kernel)]; kernel_rfl) | (rw [if_neg (by decide +kernel)]; exact ⟨rfl, rfl⟩))
    (fun os started H enc _ => lifted os started H enc)
theorem proved : Rows.LogKeepsCardSaid :=
  Claim7.holds_tied_plain_at .later [] [.sentinel] true (true, "d3524aa929f8ce301dee17c9d57e5c255fc06e46f84e67fde5ade478109a56d0") false over (fun _ h => by cases h) (by kernel_rfl) (fun _ h => by cases h) logKeeps_row_tie rfl ⟨rfl, rfl⟩ (by kernel_rfl) rfl
    (fun f fn hf hfn => by
      obtain rfl : f = 4 := Option.some.inj ((show Tryd.prog.funcNamed "storeman/storemanlaw20.LogKeeps" = some 4 by kernel_rfl).symm.trans hf) |>.symm
      obtain rfl : fn = Tryd.f4 := (Option.some.inj (Tryd.func4.symm.trans hfn)).symm
      exact ⟨by kernel_rfl, fun j t ht => by
        rw [Tryd.params4] at ht
        have hm : t ∈ [22, 46, 47] := by
          have := Array.mem_of_getElem? ht
          simp at this ⊢
          omega
        have hall : ([22, 46, 47].all fun u => !Tryd.prog.wantsStandIn u) = true := by kernel_rfl
        exact (show Tryd.prog.wantsStandIn t = false by simpa using List.all_eq_true.1 hall t hm)⟩)
    (by kernel_rfl)
end Go.Proofs.YtfheikmjjijdpaaDoor.logKeeps

