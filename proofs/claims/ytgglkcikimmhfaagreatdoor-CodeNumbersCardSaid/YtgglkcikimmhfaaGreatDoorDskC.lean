/-
  The program's disk: Sync.
-/
import Derived.Test.YtgglkcikimmhfaaGreatDoorDskB
namespace Go.Proofs.YtgglkcikimmhfaaGreatDoor
open Go.RowKit Go.Maps

def DA.sync (A : DA) : DA := if tickD A.armed then { A with armed := tickA A.armed, down := true } else { A with saf := A.lat, opn := fun _ => false, armed := tickA A.armed, down := false }

/-- How the safe map reads while open sectors are gone through. -/
def mixed2 (vs vo : Int → Option (List Int)) (left : Lit → Bool) (k : Int) : Option (List Int) := if left (.int .i64 k) then vs k else (vo k).or (vs k)
theorem mixed2_start {P : Program} {K : TypeId} {w : World} {b n : Nat} {D : DataW (List Int)} {vs vo : Int → Option (List Int)} (ho : w.ownsMap P K secR b n D) (hK : P.underlying K = some (.int .i64)) (hv : ∀ k, (Lit.int .i64 k).wf = true → mview D k = vo k) (k : Int) (hk : (Lit.int .i64 k).wf = true) : vs k = mixed2 vs vo (Maps.has D) k := by
  unfold mixed2
  rcases ownsMap_at ho hK hk with ⟨h1, h2⟩ | ⟨zs, h1, h2, _⟩
  · rw [h2, ← hv k hk, h1]; simp
  · rw [h2]; simp
theorem mixed2_step {vs vo : Int → Option (List Int)} {left : Lit → Bool} {x : Int} {zs : List Int} (hx : vo x = some zs) (k : Int) : upd (mixed2 vs vo left) x (some zs) k = mixed2 vs vo (fun z => left z && !z.sameKey (.int .i64 x)) k := by
  unfold upd mixed2
  by_cases e : k = x
  · subst e
    have : (Lit.int .i64 k).sameKey (.int .i64 k) = true := WideAt.sameKey_self trivial
    simp [hx, this]
  · have : (Lit.int .i64 k).sameKey (.int .i64 x) = false := Maps.sameKey_ne (by intro h; injection h with _ h; exact e h)
    simp [e, this]
theorem mixed2_end {vs vo : Int → Option (List Int)} {left : Lit → Bool} (h : ∀ kl, left kl = false) (k : Int) : mixed2 vs vo left k = (vo k).or (vs k) := by
  unfold mixed2
  rw [h]; simp

end Go.Proofs.YtgglkcikimmhfaaGreatDoor
