/-
  LinesTales: any tale is told in the line that the document tells; it stays as it was. Conditions: none beyond the statement's own.
-/
import Derived.Test.YtglojnmcbochaaaGreatDoorCards
import Derived.Test.YtglojnmcbochaaaGreatDoorTLtl
import Derived.Test.YtglojnmcbochaaaGreatDoorTLLd
import Derived.Test.YtglojnmcbochaaaGreatDoorTShf
import Derived.Carry
import Derived.SizedLaws
namespace Go.Proofs.YtglojnmcbochaaaGreatDoor.linesTales
open Go.ChangeShapes Go.WideShapes Go.ChangeAt Go.RowKit
open Go.ChangeMaps (open_string shut_string)
set_option linter.unusedVariables false

theorem laidOut : laidOutB Tryz.prog = true := by kernel_rfl
theorem own : ownKnob Tryz.prog.godebug = none := by kernel_rfl

set_option maxRecDepth 100000 in
theorem lifted (os : Os) (started : os.Started) (H : Type) (enc : TypeId × Value → H) :
    ReturnsInHanded {} Tryz.checked os 4 .any (fun w args => (Rows.linesTalesSpec.pre enc Tryz.prog Tryz.f4 Rows.linesTalesRow.domain false w args ∧ laidMetH Tryz.prog Rows.linesTalesRow.laid w) ∧ sizedMet enc Tryz.prog Tryz.f4 (OpenSpec.ofChange Rows.linesTalesSpec) false w args)
      (Rows.linesTalesSpec.post enc Tryz.prog Tryz.f4 false true false false) := by
  refine returnsInHanded_of_change_and (C := Tryz.checked) (X := fun w _ => laidMetH Tryz.prog Rows.linesTalesRow.laid w) (fun _ _ _ hh h => h.of_heap hh) own started (by kernel_rfl) Tryz.func4
    (ChangeSpec.witness_shaped (enc := enc) (C := Tryz.checked) (os := os) (X := fun w _ => laidMetH Tryz.prog Rows.linesTalesRow.laid w) false (World.laidAll Tryz.prog os Rows.linesTalesRow.laid) #[.agg #[.int .u8 0, .int .i64 0, .int .i64 0, .int .u8 0, .int .i64 0, .string ⟨#[]⟩, .int .i64 0, .int .i64 0, .int .i64 0, .int .i64 0, .int .i64 0, .int .i64 0, .slice none 0 0, .slice none 0 0, .int .i64 0, .int .i64 0, .int .i64 0, .string ⟨#[]⟩, .int .u8 0, .slice none 0 0, .slice none 0 0]] 8 (World.laidAll_os _ _ _)
      (World.shaped_of_ZipB (by kernel_rfl) (by kernel_rfl)) (by kernel_rfl) (by kernel_rfl) (by kernel_rfl)
      (by rw [MakeChecks.laidMetH_plain _ _ _ (by kernel_rfl)]; exact laidMet_laidAll _ (by kernel_rfl) (by kernel_rfl))) ?_
  intro W base args ds gs before hval0 hW _ hsz0 hL _
  have hval : ∀ (j : Nat) t v, Tryz.f4.params[j]? = some t → args[j]? = some v → Value.okWide Tryz.prog W .any base t v := hval0
  have hW' := hW
  obtain ⟨p, q, hA0, hV, rfl, hfz, hnd⟩ := hW
  have hA : DataW.TrodAll enc Tryz.prog W 0 (fun _ => true) true Tryz.f4.params.toList args.toList ds p := hA0
  have hvars : LnVars W := by
    rw [MakeChecks.laidMetH_plain _ _ _ (by kernel_rfl)] at hL
    exact lnVars_of hL
  rw [Tryz.params4] at hA hval
  have hlt := hA.lt
  obtain ⟨v0, vs0, d0, ds0, p0, q0, hargs, rfl, rfl, h0, r0⟩ := trodAll_cons hA
  obtain ⟨rfl, rfl, rfl⟩ := trodAll_nil r0
  obtain rfl : args = #[v0] := by cases args; simp_all
  obtain ⟨rfl, rfl⟩ := trodVars_none hV
  have hlt0 : ∀ x ∈ p0, x.block < W.heap.size := fun x hx => hlt x (by simp [hx])
  have hsz : (DataW.weightsEach Tryz.prog ([44] ++ (Rows.linesTalesSpec.plain.varTypes Tryz.prog)) ([d0] ++ [])).all (· ≤ reachBytes) = true := hsz0
  obtain ⟨cs0, rfl, hcs0⟩ := okWide_struct Tryz.underlying44 (hval 0 44 v0 rfl rfl)
  obtain ⟨fuel0, ht0⟩ := id h0
  obtain ⟨t0, SA0, ST0, rfl, hI0, hJ0, hO0, hF0, hG0⟩ := open_taleT (cs := cs0) ht0 (sized_eachT hsz (j := 0) rfl rfl)
  clear hA0 hval0
  simp only [List.append_nil] at hW'
  refine (linesTales_any t0 SA0 ST0 W hvars hI0 hJ0 hO0 hF0 hG0).mono fun e W' ⟨he, hg⟩ => ?_
  subst he
  have hB := hg.below (fun _ e => e.elim)
  exact ⟨_, rfl, _, _, _, [], _, [], hW', trodAll_cons_mk (shut_bool Tryz.underlying4 _) trodAll_mk0, trodAll_cons_mk (Below.trod laidOut (by kernel_rfl) (of_decide_eq_true (by kernel_rfl)) h0 hB hlt0) trodAll_mk0, rfl, hB.frame _, fun h => by cases h⟩

theorem over : Rows.linesTalesRow.holds Tryz.pinned (OpenSpec.ofChange Rows.linesTalesSpec) :=
  OpenClaim.holds_of_wide 4 Tryz.f4 rfl rfl rfl rfl rfl rfl rfl ⟨rfl, rfl, rfl, rfl, rfl⟩ rfl rfl rfl rfl rfl (by kernel_rfl) Tryz.func4 (by kernel_rfl)
    (of_decide_eq_true (by kernel_rfl)) (by unfold Func.isWrapper; first | (rw [if_pos (by decide +kernel)]; kernel_rfl) | (rw [if_neg (by decide +kernel)]; exact ⟨rfl, rfl⟩))
    (fun os started H enc _ => lifted os started H enc)
theorem proved : Rows.LinesTalesCardSaid :=
  Claim7.holds_tied_plain_at .later [] [.data, .data, .data, .data, .sentinel, .sentinel, .data, .data, .pinned] true (true, "d1260563bea0e447a5ba7a65f10ab1fc90f455772e8ed961c2473868f8c5531f") true over (fun _ h => by cases h) (by kernel_rfl) (fun _ h => by cases h) linesTales_row_tie rfl ⟨rfl, rfl⟩ (by kernel_rfl) rfl
    (fun f fn hf hfn => by
      obtain rfl : f = 4 := Option.some.inj ((show Tryz.prog.funcNamed "storeman/storemanlaw31.LinesTales" = some 4 by kernel_rfl).symm.trans hf) |>.symm
      obtain rfl : fn = Tryz.f4 := (Option.some.inj (Tryz.func4.symm.trans hfn)).symm
      exact ⟨by kernel_rfl, fun j t ht => by
        rw [Tryz.params4] at ht
        have hm : t ∈ [44] := by
          have := Array.mem_of_getElem? ht
          simp at this ⊢
          omega
        have hall : ([44].all fun u => !Tryz.prog.wantsStandIn u) = true := by kernel_rfl
        exact (show Tryz.prog.wantsStandIn t = false by simpa using List.all_eq_true.1 hall t hm)⟩)
    (by kernel_rfl)
end Go.Proofs.YtglojnmcbochaaaGreatDoor.linesTales

