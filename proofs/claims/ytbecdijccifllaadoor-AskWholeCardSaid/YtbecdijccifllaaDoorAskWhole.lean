/-
  AskWhole: what is got of any bytes is right, and put as just those that go by; none of their beginnings is one's. No condition.
-/
import Derived.Test.YtbecdijccifllaaDoorCards
import Derived.Test.YtbecdijccifllaaDoorAskM
import Derived.Test.YtbecdijccifllaaDoorALd
import Derived.Test.YtbecdijccifllaaDoorOpB
import Derived.Test.YtbecdijccifllaaDoorOpB
import Derived.Carry
import Derived.SizedLaws
namespace Go.Proofs.YtbecdijccifllaaDoor.askWhole
open Go.ChangeShapes Go.WideShapes Go.ChangeAt Go.RowKit
open Go.ChangeMaps (open_string shut_string)
set_option linter.unusedVariables false

theorem laidOut : laidOutB Tryd.prog = true := by kernel_rfl
theorem own : ownKnob Tryd.prog.godebug = none := by kernel_rfl

set_option maxRecDepth 100000 in
theorem lifted (os : Os) (started : os.Started) (H : Type) (enc : TypeId × Value → H) :
    ReturnsInHanded {} Tryd.checked os 4 .any (fun w args => (Rows.askWholeSpec.pre enc Tryd.prog Tryd.f4 Rows.askWholeRow.domain false w args ∧ laidMetH Tryd.prog Rows.askWholeRow.laid w) ∧ sizedMet enc Tryd.prog Tryd.f4 (OpenSpec.ofChange Rows.askWholeSpec) false w args)
      (Rows.askWholeSpec.post enc Tryd.prog Tryd.f4 false true false false) := by
  refine returnsInHanded_of_change_and (C := Tryd.checked) (X := fun w _ => laidMetH Tryd.prog Rows.askWholeRow.laid w) (fun _ _ _ hh h => h.of_heap hh) own started (by kernel_rfl) Tryd.func4
    (ChangeSpec.witness_shaped (enc := enc) (C := Tryd.checked) (os := os) (X := fun w _ => laidMetH Tryd.prog Rows.askWholeRow.laid w) false (World.laidAll Tryd.prog os Rows.askWholeRow.laid) #[.slice none 0 0] 8 (World.laidAll_os _ _ _)
      (World.shaped_of_ZipB (by kernel_rfl) (by kernel_rfl)) (by kernel_rfl) (by kernel_rfl) (by kernel_rfl)
      (by rw [MakeChecks.laidMetH_plain _ _ _ (by kernel_rfl)]; exact laidMet_laidAll _ (by kernel_rfl) (by kernel_rfl))) ?_
  intro W base args ds gs before hval0 hW _ hsz0 hL _
  have hval : ∀ (j : Nat) t v, Tryd.f4.params[j]? = some t → args[j]? = some v → Value.okWide Tryd.prog W .any base t v := hval0
  have hW' := hW
  obtain ⟨p, q, hA0, hV, rfl, hfz, hnd⟩ := hW
  have hA : DataW.TrodAll enc Tryd.prog W 0 (fun _ => true) true Tryd.f4.params.toList args.toList ds p := hA0
  have hvars : KindsOk W := by
    rw [MakeChecks.laidMetH_plain _ _ _ (by kernel_rfl)] at hL
    exact kindsOk_of hL
  rw [Tryd.params4] at hA hval
  have hlt := hA.lt
  obtain ⟨v0, vs0, d0, ds0, p0, q0, hargs, rfl, rfl, h0, r0⟩ := trodAll_cons hA
  obtain ⟨rfl, rfl, rfl⟩ := trodAll_nil r0
  obtain rfl : args = #[v0] := by cases args; simp_all
  obtain ⟨rfl, rfl⟩ := trodVars_none hV
  have hlt0 : ∀ x ∈ p0, x.block < W.heap.size := fun x hx => hlt x (by simp [hx])
  have hsz : (DataW.weightsEach Tryd.prog ([27] ++ (Rows.askWholeSpec.plain.varTypes Tryd.prog)) ([d0] ++ [])).all (· ≤ reachBytes) = true := hsz0
  obtain ⟨sb0, sl0, sc0, rfl⟩ := okWide_slice Tryd.underlying27 (hval 0 27 v0 rfl rfl)
  obtain ⟨fuel0, ht0⟩ := id h0
  obtain ⟨A0, n0, cc0, zs0, es0, hX0, hZ0⟩ := open_byts ht0
  obtain ⟨rfl, rfl, rfl⟩ : sb0 = A0 ∧ sl0 = n0 ∧ sc0 = cc0 := by simpa using es0
  have z0 := sized_byts hsz (j := 0) rfl rfl hZ0
  clear hA0 hval0
  simp only [List.append_nil] at hW'
  refine (askWhole_any sb0 sl0 sc0 zs0 W hvars hX0.1 hX0.2.1 hX0.2.2.1 hX0.2.2.2 z0).mono fun e W' ⟨he, hg⟩ => ?_
  subst he
  have hB := hg.below (fun _ e => e.elim)
  exact ⟨_, rfl, _, _, _, [], _, [], hW', trodAll_cons_mk (shut_bool Tryd.underlying4 _) trodAll_mk0, trodAll_cons_mk (Below.trod laidOut (by kernel_rfl) (of_decide_eq_true (by kernel_rfl)) h0 hB hlt0) trodAll_mk0, rfl, hB.frame _, fun h => by cases h⟩

theorem over : Rows.askWholeRow.holds Tryd.pinned (OpenSpec.ofChange Rows.askWholeSpec) :=
  OpenClaim.holds_of_wide 4 Tryd.f4 rfl rfl rfl rfl rfl rfl rfl ⟨rfl, rfl, rfl, rfl, rfl⟩ rfl rfl rfl rfl rfl (by kernel_rfl) Tryd.func4 (by kernel_rfl)
    (of_decide_eq_true (by kernel_rfl)) (by unfold Func.isWrapper; first | (rw [if_pos (by decide +kernel)]; kernel_rfl) | (rw [if_neg (by decide +kernel)]; exact ⟨rfl, rfl⟩))
    (fun os started H enc _ => lifted os started H enc)
theorem proved : Rows.AskWholeCardSaid :=
  Claim7.holds_tied_plain_at .later [] [.data, .data, .pinned] true (true, "972d5ecab1c789e54044f98b0e2870b8db974d3419b61e01794f3aa5b70ed9f1") false over (fun _ h => by cases h) (by kernel_rfl) (fun _ h => by cases h) askWhole_row_tie rfl ⟨rfl, rfl⟩ (by kernel_rfl) rfl
    (fun f fn hf hfn => by
      obtain rfl : f = 4 := Option.some.inj ((show Tryd.prog.funcNamed "storeman/storemanlaw13.AskWhole" = some 4 by kernel_rfl).symm.trans hf) |>.symm
      obtain rfl : fn = Tryd.f4 := (Option.some.inj (Tryd.func4.symm.trans hfn)).symm
      exact ⟨by kernel_rfl, fun j t ht => by
        rw [Tryd.params4] at ht
        have hm : t ∈ [27] := by
          have := Array.mem_of_getElem? ht
          simp at this ⊢
          omega
        have hall : ([27].all fun u => !Tryd.prog.wantsStandIn u) = true := by kernel_rfl
        exact (show Tryd.prog.wantsStandIn t = false by simpa using List.all_eq_true.1 hall t hm)⟩)
    (by kernel_rfl)
end Go.Proofs.YtbecdijccifllaaDoor.askWhole
