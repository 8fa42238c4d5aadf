/-
  AskGets: of any bytes the command that they begin with, or that they do with none, is what the document tells; they stay as they were, and are not kept; what is got twice lies apart. Conditions: none beyond the statement's own.
-/
import Derived.Test.YtijmfglgeaaoaaaGreatDoorCards
import Derived.Test.YtijmfglgeaaoaaaGreatDoorPAcG
import Derived.Test.YtijmfglgeaaoaaaGreatDoorPOpA
import Derived.Carry
import Derived.SizedLaws
namespace Go.Proofs.YtijmfglgeaaoaaaGreatDoor.askGets
open Go.ChangeShapes Go.WideShapes Go.ChangeAt Go.RowKit
open Go.ChangeMaps (open_string shut_string)
set_option linter.unusedVariables false

theorem laidOut : laidOutB Tryz.prog = true := by kernel_rfl
theorem own : ownKnob Tryz.prog.godebug = none := by kernel_rfl

set_option maxRecDepth 100000 in
theorem lifted (os : Os) (started : os.Started) (H : Type) (enc : TypeId × Value → H) :
    ReturnsInHanded {} Tryz.checked os 3 .any (fun w args => (Rows.askGetsSpec.pre enc Tryz.prog Tryz.f3 Rows.askGetsRow.domain false w args ∧ laidMetH Tryz.prog Rows.askGetsRow.laid w) ∧ sizedMet enc Tryz.prog Tryz.f3 (OpenSpec.ofChange Rows.askGetsSpec) false w args)
      (Rows.askGetsSpec.post enc Tryz.prog Tryz.f3 false true false false) := by
  refine returnsInHanded_of_change_and (C := Tryz.checked) (X := fun w _ => laidMetH Tryz.prog Rows.askGetsRow.laid w) (fun _ _ _ hh h => h.of_heap hh) own started (by kernel_rfl) Tryz.func3
    (ChangeSpec.witness_shaped (enc := enc) (C := Tryz.checked) (os := os) (X := fun w _ => laidMetH Tryz.prog Rows.askGetsRow.laid w) false (World.laidAll Tryz.prog os Rows.askGetsRow.laid) #[.slice none 0 0] 8 (World.laidAll_os _ _ _)
      (World.shaped_of_ZipB (by kernel_rfl) (by kernel_rfl)) (by kernel_rfl) (by kernel_rfl) (by kernel_rfl)
      (by rw [MakeChecks.laidMetH_plain _ _ _ (by kernel_rfl)]; exact laidMet_laidAll _ (by kernel_rfl) (by kernel_rfl))) ?_
  intro W base args ds gs before hval0 hW _ hsz0 hL _
  have hval : ∀ (j : Nat) t v, Tryz.f3.params[j]? = some t → args[j]? = some v → Value.okWide Tryz.prog W .any base t v := hval0
  have hW' := hW
  obtain ⟨p, q, hA0, hV, rfl, hfz, hnd⟩ := hW
  have hA : DataW.TrodAll enc Tryz.prog W 0 (fun _ => true) true Tryz.f3.params.toList args.toList ds p := hA0
  have hvars : KindsOk W := by
    rw [MakeChecks.laidMetH_plain _ _ _ (by kernel_rfl)] at hL
    exact kindsOk_of hL
  rw [Tryz.params3] at hA hval
  have hlt := hA.lt
  obtain ⟨v0, vs0, d0, ds0, p0, q0, hargs, rfl, rfl, h0, r0⟩ := trodAll_cons hA
  obtain ⟨rfl, rfl, rfl⟩ := trodAll_nil r0
  obtain rfl : args = #[v0] := by cases args; simp_all
  obtain ⟨rfl, rfl⟩ := trodVars_none hV
  have hlt0 : ∀ x ∈ p0, x.block < W.heap.size := fun x hx => hlt x (by simp [hx])
  have hsz : (DataW.weightsEach Tryz.prog ([22] ++ (Rows.askGetsSpec.plain.varTypes Tryz.prog)) ([d0] ++ [])).all (· ≤ reachBytes) = true := hsz0
  obtain ⟨sb0, sl0, sc0, rfl⟩ := okWide_slice Tryz.underlying22 (hval 0 22 v0 rfl rfl)
  obtain ⟨fuel0, ht0⟩ := id h0
  obtain ⟨A0, n0, cc0, zs0, es0, hX0, hZ0⟩ := open_byts ht0
  obtain ⟨rfl, rfl, rfl⟩ : sb0 = A0 ∧ sl0 = n0 ∧ sc0 = cc0 := by simpa using es0
  have z0 := sized_byts hsz (j := 0) rfl rfl hZ0
  clear hA0 hval0
  simp only [List.append_nil] at hW'
  refine (askGets_any sb0 sl0 sc0 zs0 W hvars hX0.1 hX0.2.1 hX0.2.2.1 hX0.2.2.2 z0).mono fun e W' ⟨he, hg⟩ => ?_
  subst he
  have hB := hg.below (fun _ e => e.elim)
  exact ⟨_, rfl, _, _, _, [], _, [], hW', trodAll_cons_mk (shut_bool Tryz.underlying4 _) trodAll_mk0, trodAll_cons_mk (Below.trod laidOut (by kernel_rfl) (of_decide_eq_true (by kernel_rfl)) h0 hB hlt0) trodAll_mk0, rfl, hB.frame _, fun h => by cases h⟩

theorem over : Rows.askGetsRow.holds Tryz.pinned (OpenSpec.ofChange Rows.askGetsSpec) :=
  OpenClaim.holds_of_wide 3 Tryz.f3 rfl rfl rfl rfl rfl rfl rfl ⟨rfl, rfl, rfl, rfl, rfl⟩ rfl rfl rfl rfl rfl (by kernel_rfl) Tryz.func3 (by kernel_rfl)
    (of_decide_eq_true (by kernel_rfl)) (by unfold Func.isWrapper; first | (rw [if_pos (by decide +kernel)]; kernel_rfl) | (rw [if_neg (by decide +kernel)]; exact ⟨rfl, rfl⟩))
    (fun os started H enc _ => lifted os started H enc)
theorem proved : Rows.AskGetsCardSaid :=
  Claim7.holds_tied_plain_at .later [] [.data, .data, .pinned] true (true, "c90f1f719159805b511f5679ed455b38810dadccf7a567a6b927fc734a858af6") false over (fun _ h => by cases h) (by kernel_rfl) (fun _ h => by cases h) askGets_row_tie rfl ⟨rfl, rfl⟩ (by kernel_rfl) rfl
    (fun f fn hf hfn => by
      obtain rfl : f = 3 := Option.some.inj ((show Tryz.prog.funcNamed "storeman/storemanlaw13.AskGets" = some 3 by kernel_rfl).symm.trans hf) |>.symm
      obtain rfl : fn = Tryz.f3 := (Option.some.inj (Tryz.func3.symm.trans hfn)).symm
      exact ⟨by kernel_rfl, fun j t ht => by
        rw [Tryz.params3] at ht
        have hm : t ∈ [22] := by
          have := Array.mem_of_getElem? ht
          simp at this ⊢
          omega
        have hall : ([22].all fun u => !Tryz.prog.wantsStandIn u) = true := by kernel_rfl
        exact (show Tryz.prog.wantsStandIn t = false by simpa using List.all_eq_true.1 hall t hm)⟩)
    (by kernel_rfl)
end Go.Proofs.YtijmfglgeaaoaaaGreatDoor.askGets

