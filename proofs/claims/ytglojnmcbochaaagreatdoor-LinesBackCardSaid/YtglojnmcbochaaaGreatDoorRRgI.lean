/-
  A region that draws its order, within a round of a loop over a function: what serves outside serves there. No condition: laws over any program.
-/
import Derived.Test.YtglojnmcbochaaaGreatDoorRRegB
import Derived.Test.YtglojnmcbochaaaGreatDoorRRegD
import Derived.Test.YtglojnmcbochaaaGreatDoorRIfn
import Derived.OrdersIn
namespace Go.Proofs.YtglojnmcbochaaaGreatDoor
open Go.RowKit Go.Maps
set_option linter.unusedVariables false

section
variable {P : Program} {ops : Array Oper} {Q : Exit → Act → World → Prop} {md : Region.Mode} {S : World → Prop}
theorem rowsIn_of {n l : Nat} {row : String} {args : Array Value} {w : World} {R : Value → World → Prop} (h : Rows P row args w R) : RowsIn (Fence.wide.inRound l) n P row args w R :=
  fun c cs _ => let ⟨v, w', r, s⟩ := h c cs; ⟨v, w', r, stepsIn_wide.2 s⟩
theorem oper_in {l n : Nat} {o : Oper} {a : Act} {w : World} {K : Act → World → Prop} (hd : ∀ c, o.op ≠ .defer c) (h : o.wp P a w K Q) : o.wpIn (Fence.wide.inRound l) n P a w K Q := by
  refine ⟨fun f _ => trivial, ?_⟩
  unfold Oper.wp at h
  rw [show (Fence.wide.inRound l).round = some l from rfl, Oper.semAt_some l _ _ hd]
  have hz : ∀ {p : Prop}, (Fence.wide.inRound l).depth.isSome = true → p := fun h => by cases h
  cases hr : (execOp a.eval o).run P w with
  | ok x w' =>
    rw [hr] at h
    cases x with
    | value v => exact h
    | skip => exact h
    | «defer» d => exact h
    | enter f args =>
      have h' : CallsIn Fence.wide (n - 1) P f args w' _ := callsIn_wide.2 h
      exact ⟨hz, h'⟩
    | row r args => exact ⟨hz, rowsIn_of h⟩
    | _ => exact h.elim
  | halt x w' =>
    rw [hr] at h
    cases x <;> exact h
theorem any_in {l n : Nat} (hd : ∀ (i : Nat) (o : Oper), ops[i]? = some o → ∀ c, o.op ≠ .defer c) (hL : ¬ LetsOut Q) : ∀ (fuel : Nat) (listed : Array Bool) (a : Act) (w : World), wpAny P md ops Q fuel listed a w → wpAnyIn (Fence.wide.inRound l) n P md ops Q fuel listed a w
  | 0, _, _, _, h => h
  | fuel + 1, listed, a, w, h => ⟨h.1, fun i hi => by
    have h2 := h.2 i hi
    unfold wpOp at h2
    unfold wpOpIn
    cases ho : ops[i]? with
    | none => rw [ho] at h2; exact any_in hd hL fuel _ _ _ h2
    | some o =>
      rw [ho] at h2
      simp only at h2 ⊢
      split
      · rename_i hw
        rw [if_pos hw] at h2
        rcases h2 with h2 | h2
        · exact oper_in (hd i o ho) (Oper.wp_mono (fun a' w' h' => any_in hd hL fuel _ _ _ h') h2)
        · exact absurd h2.2 hL
      · rename_i hw
        rw [if_neg hw] at h2
        exact ⟨fun _ _ => trivial, any_in hd hL fuel _ _ _ h2⟩⟩
def noDefer (l : List Oper) : Bool := l.all fun o => match o.op with
  | .defer _ => false
  | _ => true
theorem noDefer_spec {l : List Oper} (h : noDefer l = true) (i : Nat) (o : Oper) (ho : l.toArray[i]? = some o) : ∀ c, o.op ≠ .defer c := by
  intro c e
  have hm : o ∈ l := by
    have : l[i]? = some o := by simpa using ho
    exact List.mem_of_getElem? this
  have := (List.all_eq_true.1 h) o hm
  rw [e] at this
  cases this
theorem wpIn_region_ts {id l0 n : Nat} {a : Act} {w : World} {l : List Oper} (S : World → Prop) (t : Ts Nat) (hm : P.follows .mixedOrders = true) (hB : regTsB l t = true) (hD : noDefer l = true) (hL : ¬ LetsOut Q)
    (hQ : ∀ c a d v w, Q (.panic c) (Act.put a (some d) v) w → Q (.panic c) a w)
    (hh : wpTs P l.toArray Q S (t.map fun i => l[i]?) a w.drew) : (Code.region id l.toArray true).wpIn (Fence.wide.inRound l0) n P Q a w := by
  simp only [regTsB, Bool.and_eq_true, decide_eq_true_eq] at hB
  obtain ⟨⟨h1, h3⟩, h4⟩ := hB
  refine wpIn_region_any hm (any_in (noDefer_spec hD) hL _ _ _ _ (wpAny_of_held (S := S) _ _ _ _ ?_))
  rw [← h3]
  have h5 : wpAnyH P .any l.toArray Q S t.len (Array.replicate l.toArray.size false) a w.drew := wpAnyH_ts h1 hQ t _ a w.drew h4 (by simpa using hh)
  rw [h3] at h5 ⊢
  exact h5
end
end Go.Proofs.YtglojnmcbochaaaGreatDoor

