/-
  Bytes that come in as an argument, opened. No condition.
-/
import Derived.Test.YtfheikmjjijdpaaDoorKitB
import Derived.Test.YtfheikmjjijdpaaDoorOpen
import Derived.ProofKit
import Derived.OpenShut
import Derived.ChangeSlices
import Derived.SizedLaws
namespace Go.Proofs.YtfheikmjjijdpaaDoor
open Go.RowKit Go.ChangeShapes Go.WideShapes Go.Deep

def BytsOk (w : World) (A : Option Addr) (n c : Nat) (zs : List Int) : Prop := BytS w A n c zs ∧ (∀ z ∈ zs, isByte z) ∧ n ≤ c ∧ c ≤ maxLen
theorem u8_wf {n : Int} (h : (Lit.int .u8 n).wf = true) : isByte n := by
  simp [Lit.wf, IntKind.min, IntKind.max, IntKind.bits, IntKind.signed] at h
  unfold isByte
  omega
theorem i64b {n : Int} (h : (Lit.int .i64 n).wf = true) : -9223372036854775808 ≤ n ∧ n ≤ 9223372036854775807 := by
  simp [Lit.wf, IntKind.min, IntKind.max, IntKind.bits, IntKind.signed] at h
  omega
theorem open_byts {H : Type} {enc : TypeId × Value → H} {w : World} {base : Nat} {spare : Nat → Bool} {held : Bool} {fuel : Nat} {v : Value} {x : DataW H × List MemPlace}
    (h : DataW.trod enc Tryd.prog w base spare held fuel 33 [v] = some x) : ∃ A n c zs, v = .slice A n c ∧ BytsOk w A n c zs ∧ (n = 0 ∨ ∃ e s, x.1 = .slice e s ∧ n ≤ e.length + s.length) := by
  rcases open_ints Tryd.underlying33 Tryd.underlying5 (by kernel_rfl) h with ⟨hcs, hx⟩ | ⟨a, len, cap, zs, hcs, hb, hl, hm, hz, hx, hcell, hwz⟩
  · exact ⟨none, 0, 0, [], by simpa using hcs, ⟨⟨BytR.none_ w, fun _ => ⟨rfl, rfl⟩⟩, by simp, Nat.le_refl _, Nat.zero_le _⟩, .inl rfl⟩
  · have hle : len ≤ zs.length := by rw [hz]; split <;> omega
    have hlt : (zs.take len).length = len := by rw [List.length_take]; omega
    refine ⟨some a, len, cap, zs.take len, by simpa using hcs, ⟨⟨⟨hlt, by unfold maxLen at hm; omega, fun h0 => ?_⟩, fun e => by cases e⟩, fun z hzm => u8_wf (hwz z (List.mem_of_mem_take hzm)), hl, hm⟩, .inr ⟨_, _, by rw [hx], ?_⟩⟩
    · have h1 := hcell 0 (by omega)
      have h2 : w.cell? a = some (.int .u8 (zs.getD 0 0)) := by simpa [Addr.add] using h1
      have h3 := plain_addr h2
      refine ⟨a.block, a.off, by rw [← h3], fun j hj => ?_⟩
      have h4 := hcell j (by omega)
      rw [h3, Addr.add_mid] at h4
      rw [h4]
      simp only [List.getD_eq_getElem?_getD, List.getElem?_take, if_pos hj]
    · simp [lits]
      omega
theorem sized_byts {H : Type} {ts : List TypeId} {ds : List (DataW H)} (h : (DataW.weightsEach Tryd.prog ts ds).all (· ≤ reachBytes) = true) {j n : Nat} {d : DataW H} (ht : ts[j]? = some 33) (hd : ds[j]? = some d) (hn : n = 0 ∨ ∃ e s, d = .slice e s ∧ n ≤ e.length + s.length) : n ≤ 140737488355328 := by
  rcases hn with h0 | ⟨e, s, rfl, hn⟩
  · omega
  · have h1 := sized_slice h ht hd Tryd.underlying33
    rw [show Tryd.prog.bytesOf 5 = 1 by kernel_rfl] at h1
    have := reachBytes_lt
    omega
theorem sized_str {H : Type} {P : Program} {ts : List TypeId} {ds : List (DataW H)} (h : (DataW.weightsEach P ts ds).all (· ≤ reachBytes) = true) {j : Nat} {t : TypeId} {s : ByteArray} (ht : ts[j]? = some t) (hd : ds[j]? = some (.lit (.string s.data.toList))) : s.size ≤ 140737488355328 := by
  have h1 := sized_string h ht hd
  have := reachBytes_lt
  simp at h1
  omega
end Go.Proofs.YtfheikmjjijdpaaDoor
