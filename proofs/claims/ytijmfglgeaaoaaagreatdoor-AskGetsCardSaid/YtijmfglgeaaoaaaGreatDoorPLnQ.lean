/-
  What the statements share: lists of texts, and of parts, that are lent, with marks behind their end. Conditions: at most 1000000 elements.
-/
import Derived.Test.YtijmfglgeaaoaaaGreatDoorPAskK
import Derived.Test.YtijmfglgeaaoaaaGreatDoorPRegC
import Derived.Test.YtijmfglgeaaoaaaGreatDoorPKitB
import Derived.Test.YtijmfglgeaaoaaaGreatDoorPAskG
import Derived.IntWalk
import Derived.Laws.BytesArg
namespace Go.Proofs.YtijmfglgeaaoaaaGreatDoor
open Go.RowKit Go.Maps
set_option linter.unusedVariables false
set_option linter.unusedSimpArgs false

def mkXs (k i : Int) : List Int := [35, k % 256, k / 256 % 256, k / 65536, 47, i % 256, i / 256 % 256, i / 65536]
def mkX (k i : Int) : List UInt8 := toB (mkXs k i)
theorem news_new (w : World) (T : TypeId) (cs : List Value) : ∀ j u, cs[j]? = some u → (w.alloc (.cells cs.toArray T)).cell? ((⟨w.heap.size, 0, none⟩ : Addr).add j) = some u := by
  intro j u hu
  rw [Addr.add_mid, Nat.zero_add, (Blk.new w T cs.toArray).cell]
  simpa using hu
set_option maxRecDepth 100000 in
theorem mkX_any (k i : Int) (w : World) (h0 : 0 ≤ k) (h1 : k ≤ 10000000) (h2 : 0 ≤ i) (h3 : i ≤ 10000000) : Calls Tryz.prog 105 #[.int .i64 k, .int .i64 i] w (RetNew (strV (mkX k i)) w) := by
  have hcv : (convert 22 9 (.slice (some ⟨w.heap.size, 0, none⟩) 8 8)).run Tryz.prog (w.alloc (.cells #[.int .u8 35, .int .u8 (k % 256), .int .u8 (k / 256 % 256), .int .u8 (k / 65536), .int .u8 47, .int .u8 (i % 256), .int .u8 (i / 256 % 256), .int .u8 (i / 65536)] 5)) = .ok (.string (strOfNums (mkXs k i))) (w.alloc (.cells #[.int .u8 35, .int .u8 (k % 256), .int .u8 (k / 256 % 256), .int .u8 (k / 65536), .int .u8 47, .int .u8 (i % 256), .int .u8 (i / 256 % 256), .int .u8 (i / 65536)] 5)) :=
    run_convert_bytes_arg (w.alloc (.cells #[.int .u8 35, .int .u8 (k % 256), .int .u8 (k / 256 % 256), .int .u8 (k / 65536), .int .u8 47, .int .u8 (i % 256), .int .u8 (i / 256 % 256), .int .u8 (i / 65536)] 5)) 22 5 Tryz.underlying22 Tryz.underlying5 w.heap.size 0 8 8 (mkXs k i) rfl (fun j hj => by
      rw [Nat.zero_add, (Blk.new w 5 #[.int .u8 35, .int .u8 (k % 256), .int .u8 (k / 256 % 256), .int .u8 (k / 65536), .int .u8 47, .int .u8 (i % 256), .int .u8 (i / 256 % 256), .int .u8 (i / 65536)]).cell]
      rcases (show j = 0 ∨ j = 1 ∨ j = 2 ∨ j = 3 ∨ j = 4 ∨ j = 5 ∨ j = 6 ∨ j = 7 by omega) with rfl | rfl | rfl | rfl | rfl | rfl | rfl | rfl <;> rfl) 9 Tryz.underlying9
  go_enter Tryz.func105, Tryz.ntmps105
  go_wp2_with fail
  go_ret
  exact ⟨rfl, (Turned.refl (fun _ => False) w).alloc _⟩
theorem RowE.part {w : World} {T g n cap : Nat} {l : List (List UInt8 × Int)} (h : RowE w T 2 g n cap (partC l)) {i : Nat} (hi : i < l.length) : w.cell? ⟨g, i * 2, none⟩ = some (strV (itemAt l i)) ∧ w.cell? ⟨g, i * 2 + 1, none⟩ = some (.int .i64 (qtyAt l i)) := ⟨h.cell (partC_fst l i hi), h.cell (partC_snd l i hi)⟩
set_option maxRecDepth 100000 in
theorem mkQ_any (k i : Int) (w : World) (h0 : 0 ≤ k) (h1 : k ≤ 1000) (h2 : 0 ≤ i) (h3 : i ≤ 10000000) : Calls Tryz.prog 110 #[.int .i64 k, .int .i64 i] w (RetNew (.agg #[.string ⟨#[]⟩, .int .i64 (1000003 * (k + 7) + i)]) w) := by
  go_enter Tryz.func110, Tryz.ntmps110
  go_wp2_with fail
  refine (mark_any k i _ h0 h1 h2 h3).mono ?_
  rintro e w1 ⟨rfl, rfl⟩
  go_wp2_with fail
  refine bodyPost_ret (v := .agg #[.string ⟨#[]⟩, .int .i64 (1000003 * (k + 7) + i)]) (by simp [results, Tryz.results110, go_sem]) rfl ⟨rfl, ?_⟩
  exact (Turned.refl (fun _ => False) w).alloc _
end Go.Proofs.YtijmfglgeaaoaaaGreatDoor

