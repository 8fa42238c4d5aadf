/-
  The document's records (storemanref19): number, row. No condition but numbers.
-/
import Derived.Test.YtohajofkflibjaaGreatDoorRfB
import Derived.Test.YtohajofkflibjaaGreatDoorRecE
import Derived.Test.YtohajofkflibjaaGreatDoorAp4
namespace Go.Proofs.YtohajofkflibjaaGreatDoor
open Go.RowKit Go.Maps
set_option linter.unusedVariables false
set_option linter.unusedSimpArgs false

/-- What an append to one's own, or to nil, leaves. -/
theorem app_step {w0 wr w2 w4 : World} {A A4 : Option Addr} {c c4 : Nat} (ht : Turned (fun _ => False) w0 wr) (hA : ∀ g, A = some ⟨g, 0, none⟩ → w0.heap.size ≤ g) (t2 : Turned (fun _ => False) wr w2)
    (hor : (A4 = A ∧ c4 = c ∧ A ≠ none ∧ Turned (fun g => A = some ⟨g, 0, none⟩) w2 w4) ∨ (A4 = some ⟨w2.heap.size, 0, none⟩ ∧ Turned (fun _ => False) w2 w4)) : Turned (fun _ => False) w0 w4 ∧ ∀ g, A4 = some ⟨g, 0, none⟩ → w0.heap.size ≤ g := by
  have t02 := ht.and_ t2
  rcases hor with ⟨rfl, _, _, h4⟩ | ⟨rfl, h4⟩
  · exact ⟨t02.trans h4 (fun _ e => e) (fun g e => .inr (hA g e)), hA⟩
  · exact ⟨t02.trans h4 (fun _ e => e) (fun _ e => e.elim), fun g e => by injection e with e; injection e with e; have := t02.size; omega⟩
theorem u64_byte (n : Int) (m : Nat) (hm : m ≤ 7) : n % 18446744073709551616 / 2 ^ (8 * m) % 256 = n / 2 ^ (8 * m) % 256 := by
  have : m = 0 ∨ m = 1 ∨ m = 2 ∨ m = 3 ∨ m = 4 ∨ m = 5 ∨ m = 6 ∨ m = 7 := by omega
  rcases this with rfl | rfl | rfl | rfl | rfl | rfl | rfl | rfl <;> simp only [Nat.mul_zero, Nat.reduceMul, Int.reducePow] <;> omega
def FNumRel (n : Int) (k : Nat) (w : World) (v i : Value) (wr : World) : Prop :=
  ∃ (t : Nat) (A : Option Addr) (c : Nat), t ≤ k ∧ i = .int .i64 ((k : Int) - 1 - (t : Int)) ∧ v = .slice A t c ∧ OwnV wr A t c (beTo k n t) ∧ (∀ g, A = some ⟨g, 0, none⟩ → w.heap.size ≤ g) ∧ Turned (fun _ => False) w wr
set_option maxRecDepth 100000 in
set_option maxHeartbeats 1000000 in
theorem fnumber_any (n : Int) (k : Nat) (w : World) (hk : k ≤ 8) (hn : I64 n) : Calls Tryz.prog 45 #[.int .i64 n, .int .i64 k] w (PutB (be k n) w) := by
  unfold I64 at hn
  go_enter Tryz.func45, Tryz.ntmps45
  go_wp2_with fail
  go_loopw [5, 6] (fun v i wr => FNumRel n k w v i wr) (fun _ i _ => (intOf i + 1).toNat)
  case atStart => exact ⟨0, none, 0, Nat.zero_le _, by simp, rfl, OwnV.nil _, (fun g e => by cases e), Turned.refl _ _⟩
  case round =>
    obtain ⟨t, A, c, ht, rfl, rfl, ho, hg, hT⟩ := hrel
    have ho' := Lib.hid ho
    have hg' := Lib.hid hg
    have hT' := Lib.hid hT
    clear ho hg hT
    by_cases hlt : t < k
    · obtain ⟨m, hm⟩ : ∃ m : Nat, m = k - 1 - t := ⟨_, rfl⟩
      have hmi : (k : Int) - 1 - (t : Int) = (m : Int) := by omega
      have hm7 : m ≤ 7 := by omega
      have hx := Lib.hid (show beAt k n t = n / 2 ^ (8 * m) % 256 by unfold beAt; rw [hm])
      rw [hmi]
      clear hm
      have hm0 : (0 : Int) ≤ (m : Int) := by omega
      have h8 : (0 : Int) ≤ 8 * (m : Int) := by omega
      have h8b : 8 * (m : Int) ≤ 56 := by omega
      have hw8 : IntKind.i64.wrap (8 * (m : Int)) = 8 * (m : Int) := IntWalk.i64_in _ (by omega)
      have hu8 : IntKind.u64.wrap (8 * (m : Int)) = 8 * (m : Int) := IntWalk.u64_in _ (by omega)
      go_wp2_with (at_builtin; refine wpList_app2 bytT rfl (.tmp 13) (.tmp 21) rfl (ho'.out.turned ((Turned.refl (fun _ => False) wr).alloc _) (fun _ _ e => e)) ⟨wr.heap.size, 0, none⟩ 1 1 [IntKind.u64.wrap n / 2 ^ (8 * m) % 256] rfl (cell_one_new _ _ _) (by omega) (by omega) rfl rfl ?_; intro A4 c4 w4 ho4 hor4)
      rw [show IntKind.u64.wrap n / 2 ^ (8 * m) % 256 = beAt k n t by rw [hx.out, ← u64_byte n m hm7, IntKind.wrap_u64]] at ho4
      obtain ⟨T4, G4⟩ := app_step hT'.out hg'.out ((Turned.refl (fun _ => False) wr).alloc _) hor4
      have hR := Lib.hid (show FNumRel n k w (.slice A4 (t + 1) c4) (.int .i64 ((k : Int) - 1 - ((t + 1 : Nat) : Int))) w4 from ⟨t + 1, A4, c4, hlt, rfl, rfl, by rw [beTo_succ]; exact ho4, G4, T4⟩)
      have hmv := Lib.hid (show Value.int .i64 ((m : Int) - 1) = .int .i64 ((k : Int) - 1 - ((t + 1 : Nat) : Int)) by congr 1; omega)
      clear ho4 hor4 T4 G4
      go_roundw
      case rel =>
        first
        | (rw [hmv.out]; exact hR.out)
        | ((repeat apply Exists.intro); exact ⟨by rw [hmv.out]; exact hR.out, rfl⟩)
      case measure => simp [intOf] <;> omega
    · obtain rfl : k = t := by omega
      have hneg : (k : Int) - 1 - (k : Int) = -1 := by omega
      rw [hneg]
      go_wp2_with fail
      go_ret
      have hl : (be k n).length = k := be_length k n
      exact ⟨A, c, by rw [hl]; rfl, by rw [hl]; exact ho'.out, hg'.out, hT'.out⟩
theorem RowE1.new (w : World) (x : Int) : RowB (w.alloc (.cells #[.int .u8 x] 5)) 5 w.heap.size 1 1 [x] := ⟨rfl, Nat.le_refl _, by unfold maxLen; omega, _, Blk.new w 5 #[.int .u8 x], rfl, rfl⟩
set_option maxRecDepth 100000 in
theorem frow_any (A : Option Addr) (n c : Nat) (zs : List Int) (w : World) (h : BytS w A n c zs) (hn : n ≤ 255) : Calls Tryz.prog 46 #[.slice A n c] w (PutB (rowL zs) w) := by
  have hl := Lib.hid h.len
  have h' := Lib.hid h
  clear h
  have hb255 : (n : Int) % 256 = (n : Int) := by omega
  go_enter Tryz.func46, Tryz.ntmps46
  go_wp2_with (at_builtin; refine wpList_app4 bytT rfl (.tmp 6) (.tmp 7) rfl (OwnV.of_row (RowE1.new w (n : Int))) (h'.out.tF ((Turned.refl (fun _ => False) w).alloc _)) (by omega) rfl rfl ?_; intro A' c' w4 ho4 hor4)
  go_ret
  have hrl : (rowL zs).length = 1 + n := by rw [rowL_length, hl.out]; omega
  obtain ⟨ht, hA⟩ := app_step (Turned.refl (fun _ => False) w) (A := some ⟨w.heap.size, 0, none⟩) (fun g e => by injection e with e; injection e with e; omega) ((Turned.refl (fun _ => False) w).alloc _) hor4
  exact ⟨A', c', by rw [hrl]; rfl, by rw [hrl]; unfold rowL; rw [hl.out]; exact ho4, hA, ht⟩
end Go.Proofs.YtohajofkflibjaaGreatDoor

