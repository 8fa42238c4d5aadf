/-
  MarkNumbers: plain law, and what is built there.
-/
import Derived.Test.YtobjoafhhchjgaaLivP
namespace Go.Proofs.Ytobjoafhhchjgaa
open Go.RowKit Go.Maps

def goodM : M4 := ⟨2305843009213693952, 2147483647, 1152921504606846976, 1152921504606846976⟩
def thirdM : M4 := ⟨3, 1, 1, 0⟩
def badM : Nat → M4
  | 0 => ⟨2305843009213693953, 1, 1, 0⟩
  | 1 => ⟨-1, 1, 1, 0⟩
  | 2 => ⟨1, 0, 1, 0⟩
  | 3 => ⟨1, 2147483648, 1, 0⟩
  | 4 => ⟨1, 1, 0, 0⟩
  | 5 => ⟨1, 1, 1152921504606846977, 0⟩
  | 6 => ⟨1, 1, 1, -1⟩
  | _ => ⟨1, 1, 1, 1152921504606846977⟩
theorem badM_may (j : Nat) : (badM j).may = false := by
  match j with
  | 0 => decide
  | 1 => decide
  | 2 => decide
  | 3 => decide
  | 4 => decide
  | 5 => decide
  | 6 => decide
  | n + 7 => show (⟨1, 1, 1, 1152921504606846977⟩ : M4).may = false; decide
theorem badM_ok (j : Nat) : (badM j).Ok := by
  match j with
  | 0 => exact ⟨⟨by decide, by decide⟩, ⟨by decide, by decide⟩, ⟨by decide, by decide⟩, ⟨by decide, by decide⟩⟩
  | 1 => exact ⟨⟨by decide, by decide⟩, ⟨by decide, by decide⟩, ⟨by decide, by decide⟩, ⟨by decide, by decide⟩⟩
  | 2 => exact ⟨⟨by decide, by decide⟩, ⟨by decide, by decide⟩, ⟨by decide, by decide⟩, ⟨by decide, by decide⟩⟩
  | 3 => exact ⟨⟨by decide, by decide⟩, ⟨by decide, by decide⟩, ⟨by decide, by decide⟩, ⟨by decide, by decide⟩⟩
  | 4 => exact ⟨⟨by decide, by decide⟩, ⟨by decide, by decide⟩, ⟨by decide, by decide⟩, ⟨by decide, by decide⟩⟩
  | 5 => exact ⟨⟨by decide, by decide⟩, ⟨by decide, by decide⟩, ⟨by decide, by decide⟩, ⟨by decide, by decide⟩⟩
  | 6 => exact ⟨⟨by decide, by decide⟩, ⟨by decide, by decide⟩, ⟨by decide, by decide⟩, ⟨by decide, by decide⟩⟩
  | n + 7 => show (⟨1, 1, 1, 1152921504606846977⟩ : M4).Ok; exact ⟨⟨by decide, by decide⟩, ⟨by decide, by decide⟩, ⟨by decide, by decide⟩, ⟨by decide, by decide⟩⟩
theorem goodM_ok : goodM.Ok := ⟨⟨by decide, by decide⟩, ⟨by decide, by decide⟩, ⟨by decide, by decide⟩, ⟨by decide, by decide⟩⟩
theorem goodM_may : goodM.may = true := by decide
theorem mw_bad {A : DA} {m : M4} (h : m.may = false) : mw A m = (2, A) := by
  unfold mw
  split
  · rfl
  · rw [h]; rfl
/-- What MarkNumbers' disks say. -/
structure NumsM (A1 A2 C1 : DA) : Prop where
  r0 : mread (DA.new 40) = (4, M4.zero)
  w1 : mw (DA.new 40) goodM = (0, A1)
  r1 : mread A1 = (0, goodM)
  w2 : mw A1 thirdM = (0, A2)
  r2 : mread A2 = (0, goodM)
  n2 : A2.n = 40
  d2 : A2.down = false
  l2 : A2.lat 0 = mBytes goodM.list
  cw : (DA.new 40).wCode 1 512 = 0
  cn : (DA.new 40).wNext 1 512 (mBytes goodM.list) = C1
  rc : mread C1 = (4, M4.zero)
theorem mread_two {A : DA} (hn : A.n = 40) (hd : A.down = false) {z0 z1 : List Int} (h0 : A.lat 0 = z0) (h1 : A.lat 1 = z1) : mread A = (if (rdAt z1 1 (rdAt z0 0 M4.zero)).seq = 0 then (4, M4.zero) else (0, rdAt z1 1 (rdAt z0 0 M4.zero))) := by
  unfold mread mreadUp
  rw [hn, hd, if_neg (by omega)]
  have : bestAt A 2 = rdAt z1 1 (rdAt z0 0 M4.zero) := by
    show rdAt (A.lat 1) 1 (rdAt (A.lat 0) 0 M4.zero) = _
    rw [h0, h1]
  rw [this]
  rfl
theorem nums25 : ∃ A1 A2 C1, NumsM A1 A2 C1 := by
  have hc : Calm (DA.new 40) := ⟨by decide, rfl, rfl⟩
  have rn : ∀ i best, rdAt noughts i best = best := fun i best => by unfold rdAt; rw [rdOk_noughts]; rfl
  have rg0 : rdAt (mBytes goodM.list) 0 M4.zero = goodM := by unfold rdAt; rw [rdOk_bytes goodM goodM_may]; rfl
  have rg1 : rdAt (mBytes goodM.list) 1 M4.zero = M4.zero := by unfold rdAt; rw [rdOk_bytes goodM goodM_may]; rfl
  have rt1 : rdAt (mBytes thirdM.list) 1 goodM = goodM := by unfold rdAt; rw [rdOk_bytes thirdM (by decide)]; rfl
  have hw1 := calm_mw hc goodM goodM_may
  have hc1 : Calm (mw (DA.new 40) goodM).2 := by rw [hw1]; exact ⟨by decide, rfl, rfl⟩
  have hw2 := calm_mw hc1 thirdM (by decide)
  have hcn := calm_wNext hc (show (0 : Int) ≤ 1 by omega) (by decide) (mBytes goodM.list)
  refine ⟨(mw (DA.new 40) goodM).2, (mw (mw (DA.new 40) goodM).2 thirdM).2, (DA.new 40).wNext 1 512 (mBytes goodM.list), ?_⟩
  have e10 : (mw (DA.new 40) goodM).2.lat 0 = mBytes goodM.list := by rw [hw1]; rfl
  have e11 : (mw (DA.new 40) goodM).2.lat 1 = noughts := by rw [hw1]; rfl
  have e20 : (mw (mw (DA.new 40) goodM).2 thirdM).2.lat 0 = mBytes goodM.list := by rw [hw2]; exact e10
  have e21 : (mw (mw (DA.new 40) goodM).2 thirdM).2.lat 1 = mBytes thirdM.list := by rw [hw2]; rfl
  have n1 : (mw (DA.new 40) goodM).2.n = 40 := by rw [hw1]; rfl
  have d1 : (mw (DA.new 40) goodM).2.down = false := by rw [hw1]
  have n2 : (mw (mw (DA.new 40) goodM).2 thirdM).2.n = 40 := by rw [hw2]; exact n1
  have d2 : (mw (mw (DA.new 40) goodM).2 thirdM).2.down = false := by rw [hw2]
  exact {
    r0 := by rw [mread_two rfl rfl (z0 := noughts) (z1 := noughts) rfl rfl, rn, rn]; rfl
    w1 := by rw [hw1]
    r1 := by rw [mread_two n1 d1 e10 e11, rg0, rn]; rfl
    w2 := by rw [hw2]
    r2 := by rw [mread_two n2 d2 e20 e21, rg0, rt1]; rfl
    n2 := n2
    d2 := d2
    l2 := e20
    cw := calm_wCode hc (by omega) (by decide)
    cn := rfl
    rc := by
      rw [mread_two (z0 := noughts) (z1 := mBytes goodM.list) (by rw [hcn]; rfl) (by rw [hcn]) (by rw [hcn]; rfl) (by rw [hcn]; rfl), rn, rg1]; rfl }
theorem small39 : mread (DA.new 39) = (2, M4.zero) ∧ fmt (DA.new 39) = (2, DA.new 39) ∧ mw (DA.new 39) goodM = (2, DA.new 39) := ⟨by rfl, by rfl, by rfl⟩
end Go.Proofs.Ytobjoafhhchjgaa
