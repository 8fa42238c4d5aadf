/-
  Lists of numbers that come in as arguments, opened. No condition.
-/
import Derived.Test.YtfheikmjjijdpaaDoorOpB
import Derived.Test.YtfheikmjjijdpaaDoorRecP
import Derived.Test.YtfheikmjjijdpaaDoorKit
namespace Go.Proofs.YtfheikmjjijdpaaDoor
open Go.RowKit Go.ChangeShapes Go.WideShapes Go.Deep

/-- A list of numbers that is read. -/
structure LongR (w : World) (A : Option Addr) (n c : Nat) (zs : List Int) : Prop where
  len : zs.length = n
  le : n ≤ c
  max : c ≤ maxLen
  wf : ∀ z ∈ zs, I64 z
  cell : 0 < n → ∃ b off, A = some ⟨b, off, none⟩ ∧ ∀ j, j < n → w.cell? ⟨b, off + j, none⟩ = some (.int .i64 (zs.getD j 0))
theorem LongR.at_ {w wr : World} {A : Option Addr} {n c : Nat} {zs : List Int} {W : Nat → Prop} (h : LongR w A n c zs) (t : Turned W w wr) (hW : ∀ i, W i → w.heap.size ≤ i) {j : Nat} (hj : j < n) : ∃ b off, A = some ⟨b, off, none⟩ ∧ wr.cell? ⟨b, off + j, none⟩ = some (.int .i64 (zs.getD j 0)) ∧ I64 (zs.getD j 0) := by
  obtain ⟨b, off, rfl, hc⟩ := h.cell (by omega)
  refine ⟨b, off, rfl, cell_turned t (hc j hj) (fun e => by have h1 := hW _ e; have h2 := World.block_lt_of_cell? w _ (hc j hj); have h3 : w.heap.size ≤ b := h1; have h4 : b < w.heap.size := h2; omega), ?_⟩
  have hl := h.len
  rw [List.getD_eq_getElem?_getD, List.getElem?_eq_getElem (by omega)]
  exact h.wf _ (List.getElem_mem _)
theorem i64_wf {n : Int} (h : (Lit.int .i64 n).wf = true) : I64 n := i64b h
theorem open_longs {H : Type} {enc : TypeId × Value → H} {w : World} {base : Nat} {spare : Nat → Bool} {held : Bool} {fuel : Nat} {v : Value} {x : DataW H × List MemPlace}
    (h : DataW.trod enc Tryd.prog w base spare held fuel 22 [v] = some x) : ∃ A n c zs, v = .slice A n c ∧ LongR w A n c zs := by
  rcases open_ints Tryd.underlying22 Tryd.underlying3 (by kernel_rfl) h with ⟨hcs, hx⟩ | ⟨a, len, cap, zs, hcs, hb, hl, hm, hz, hx, hcell, hwz⟩
  · exact ⟨none, 0, 0, [], by simpa using hcs, ⟨rfl, Nat.le_refl _, Nat.zero_le _, by simp, fun h => absurd h (by omega)⟩⟩
  · have hle : len ≤ zs.length := by rw [hz]; split <;> omega
    have hlt : (zs.take len).length = len := by rw [List.length_take]; omega
    refine ⟨some a, len, cap, zs.take len, by simpa using hcs, ⟨hlt, hl, hm, fun z hzm => i64_wf (hwz z (List.mem_of_mem_take hzm)), fun h0 => ?_⟩⟩
    have h1 := hcell 0 (by omega)
    have h2 : w.cell? a = some (.int .i64 (zs.getD 0 0)) := by simpa [Addr.add] using h1
    have h3 := plain_addr h2
    refine ⟨a.block, a.off, by rw [← h3], fun j hj => ?_⟩
    have h4 := hcell j (by omega)
    rw [h3, Addr.add_mid] at h4
    rw [h4]
    simp only [List.getD_eq_getElem?_getD, List.getElem?_take, if_pos hj]
end Go.Proofs.YtfheikmjjijdpaaDoor
