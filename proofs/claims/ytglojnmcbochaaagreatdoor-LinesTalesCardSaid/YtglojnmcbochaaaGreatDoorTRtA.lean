/-
  ytglojnmcbochaaagreatdoor: laws and walks on the road to LinesTales, joined: CodF CodH CodI CodR RtA. Conditions stand at each theorem.
-/
import Derived.Test.YtglojnmcbochaaaGreatDoorTCodQ
import Derived.Lib.IndexBytes
import Derived.Laws.BytesArg
import Derived.Test.YtglojnmcbochaaaGreatDoorTRegB
import Derived.Test.YtglojnmcbochaaaGreatDoorTAskF
import Derived.Lib.ItoaLen
namespace Go.Proofs.YtglojnmcbochaaaGreatDoor
open Go.RowKit Go.Maps
set_option linter.unusedVariables false

end Go.Proofs.YtglojnmcbochaaaGreatDoor

namespace Go.Proofs.YtglojnmcbochaaaGreatDoor
open Go.RowKit Go.Maps
set_option linter.unusedVariables false

end Go.Proofs.YtglojnmcbochaaaGreatDoor

namespace Go.Proofs.YtglojnmcbochaaaGreatDoor
open Go.RowKit Go.Maps
set_option linter.unusedVariables false

end Go.Proofs.YtglojnmcbochaaaGreatDoor

namespace Go.Proofs.YtglojnmcbochaaaGreatDoor
open Go.RowKit Go.Maps
set_option linter.unusedVariables false

/-- The digits of what is left, none of nought. -/
def decTop (u : Nat) : List UInt8 := if u = 0 then [] else Lib.decDigits u
theorem decTop_step (u : Nat) (h : 0 < u) : decTop u = decTop (u / 10) ++ [UInt8.ofNat (48 + u % 10)] := by
  unfold decTop
  rw [if_neg (by omega)]
  by_cases h1 : u < 10
  · rw [if_pos (by omega), Lib.decDigits, dif_pos h1, List.nil_append, Nat.mod_eq_of_lt h1]
  · rw [if_neg (by omega), Lib.decDigits, dif_neg h1]
def strOf1 (z : Int) : ByteArray := strOfNums [z]
theorem strOf1_data (z : Int) : (strOf1 z).data.toList = [UInt8.ofNat z.toNat] := rfl
theorem run_conv1 (w : World) (z : Int) : (convert 106 9 (.slice (some ⟨w.heap.size, 0, none⟩) 1 1)).run Tryz.prog (w.alloc (.cells #[.int .u8 z] 5)) = .ok (.string (strOf1 z)) (w.alloc (.cells #[.int .u8 z] 5)) :=
  run_convert_bytes_arg _ 106 5 Tryz.underlying106 Tryz.underlying5 w.heap.size 0 1 1 [z] rfl (fun i hi => by
    have hb := Blk.new w 5 #[.int .u8 z]
    obtain rfl : i = 0 := by omega
    rw [hb.cell]
    rfl) 9 Tryz.underlying9
def strLen0 : Value → Nat
  | .string s => if s.size = 0 then 1 else 0
  | _ => 0
def RTxRel (U0 : Nat) (w : World) (v u : Value) (wr : World) : Prop :=
  ∃ (s : ByteArray) (k : Nat), k ≤ U0 ∧ v = .string s ∧ u = .int .u64 k ∧ s.size ≤ 20 ∧ ((s.size = 0 ∧ k = U0) ∨ (0 < s.size ∧ decTop k ++ s.data.toList = Lib.decDigits U0)) ∧ Turned (fun _ => False) w wr
theorem rtx_len {U0 k : Nat} {s : ByteArray} (h : (s.size = 0 ∧ k = U0) ∨ (0 < s.size ∧ decTop k ++ s.data.toList = Lib.decDigits U0)) (hU : U0 < 18446744073709551616) (hg : 0 < k ∨ s.size = 0) : s.size + 1 ≤ 20 := by
  have h20 : (Lib.decDigits U0).length ≤ 20 := by
    rw [Lib.decDigits_length]
    exact nDigits_le U0 20 (by omega) (by omega)
  rcases h with ⟨h1, h2⟩ | ⟨h1, h2⟩
  · omega
  · have hk : 0 < k := by omega
    rw [← h2, List.length_append, ba_size] at h20
    have : 0 < (decTop k).length := by
      rw [decTop_step k hk]
      simp
    omega
theorem rtx_step {U0 k : Nat} {s : ByteArray} {w wr : World} (hk : k ≤ U0) (hs : s.size ≤ 20) (h : (s.size = 0 ∧ k = U0) ∨ (0 < s.size ∧ decTop k ++ s.data.toList = Lib.decDigits U0)) (hU : U0 < 18446744073709551616) (hg : 0 < k ∨ s.size = 0) (ht : Turned (fun _ => False) w wr) (z : Int) (hz : z = 48 + (k : Int) % 10) :
    RTxRel U0 w (.string (strOf1 z ++ s)) (.int .u64 ((k / 10 : Nat) : Int)) (wr.alloc (.cells #[.int .u8 z] 5)) := by
  have hl := rtx_len h hU hg
  have hsz : (strOf1 z ++ s).size = s.size + 1 := by
    rw [← ba_size, ByteArray.data_append, Array.toList_append, List.length_append, strOf1_data, ba_size]
    simp
    omega
  refine ⟨strOf1 z ++ s, k / 10, by omega, rfl, rfl, by omega, .inr ⟨by omega, ?_⟩, ht.alloc _⟩
  rw [ByteArray.data_append, Array.toList_append, strOf1_data, hz]
  have e : (48 + (k : Int) % 10).toNat = 48 + k % 10 := by omega
  rw [e]
  rcases h with ⟨h1, h2⟩ | ⟨h1, h2⟩
  · subst h2
    have h0 : s.data.toList = [] := List.length_eq_zero_iff.1 (by rw [ba_size]; exact h1)
    rw [h0, List.append_nil]
    by_cases hk0 : k = 0
    · subst hk0
      rw [show (0 / 10 : Nat) = 0 by rfl, Lib.decDigits, dif_pos (by omega)]
      rfl
    · rw [← decTop_step k (by omega)]
      unfold decTop
      rw [if_neg hk0]
  · by_cases hk0 : k = 0
    · omega
    · rw [← h2, decTop_step k (by omega), List.append_assoc]
theorem strOf1_size (z : Int) (s : ByteArray) : (strOf1 z ++ s).size = s.size + 1 := by
  rw [← ba_size, ByteArray.data_append, Array.toList_append, List.length_append, strOf1_data, ba_size]
  simp
  omega
set_option maxRecDepth 100000 in
set_option maxHeartbeats 1000000 in
theorem rtext_loop (neg : Bool) (n : Int) (w : World) (h : int64 n) (hneg : decide (n < 0) = neg) :
    Calls Tryz.prog 38 #[.int .i64 n] w (StrNew (Lib.itoa n) w) := by
  have hc := fun (w : World) (z : Int) => run_conv1 w z
  have hU : n.natAbs < 18446744073709551616 := by unfold int64 at h; omega
  have hit : Lib.itoa n = if neg = true then 45 :: Lib.decDigits n.natAbs else Lib.decDigits n.natAbs := by
    unfold Lib.itoa
    subst hneg
    by_cases hn : n < 0
    · rw [if_pos hn, if_pos (by simpa using hn)]
    · rw [if_neg hn, if_neg (by simpa using hn)]
      congr 1
      omega
  have hit' := Lib.hid hit
  clear hit
  cases neg with
  | false =>
    have hn : 0 ≤ n := by simpa using hneg
    have h' : n ≤ 9223372036854775807 := h.2
    have hst : RTxRel n.natAbs w (.string ⟨#[]⟩) (.int .u64 n) w := ⟨⟨#[]⟩, n.natAbs, Nat.le_refl _, rfl, by congr 1; omega, by decide, .inl ⟨rfl, rfl⟩, Turned.refl _ _⟩
    have hst' := Lib.hid hst
    clear hst hneg
    go_enter Tryz.func38, Tryz.ntmps38
    go_wp2
    go_loopw [3, 4] (fun v u wr => RTxRel n.natAbs w u v wr) (fun u v _ => 2 * (intOf u).toNat + strLen0 v)
    case atStart => exact hst'.out
    case round =>
      obtain ⟨s, k, hk, rfl, rfl, hs, hor, ht⟩ := hrel
      clear hst'
      have hku : (k : Int) < 18446744073709551616 := by omega
      by_cases hk0 : 0 < k
      · have hki : (0 : Int) < (k : Int) := by omega
        have hR := Lib.hid (rtx_step hk hs hor hU (.inl hk0) ht _ rfl)
        have hsl : s.size ≤ 20 := hs
        obtain ⟨K, hK⟩ : ∃ K : Int, K = (k : Int) := ⟨_, rfl⟩
        rw [← hK] at hki hku hR ⊢
        have hcv := run_conv1 wr (48 + K % 10)
        have hKK := Lib.hid hK
        have hm0 : 0 ≤ K % 10 := by omega
        have hm1 : K % 10 < 10 := by omega
        have hs1 : (strOf1 (48 + K % 10)).size = 1 := rfl
        clear hor ht hc hU hk hn h' h hit' hK hk0
        go_wp2_with fail
        go_roundw
        case rel =>
          have hq : K / 10 = ((k / 10 : Nat) : Int) := by have := hKK.out; omega
          first
          | exact hR.out
          | (rw [hq]; exact hR.out)
          | ((repeat apply Exists.intro); exact ⟨hR.out, rfl⟩)
        case measure =>
          have e0 : (strOf1 (48 + K % 10) ++ s).size ≠ 0 := by rw [strOf1_size]; omega
          have := hKK.out
          simp only [intOf, strLen0, if_neg e0]
          omega
      · obtain rfl : k = 0 := by omega
        by_cases hs0 : s.size = 0
        · obtain rfl : s = ⟨#[]⟩ := ba_empty hs0
          have hR := Lib.hid (rtx_step hk hs hor hU (.inr hs0) ht _ rfl)
          clear hor ht
          go_wp2_with fail
          go_roundw
          case rel => first | exact hR.out | ((repeat apply Exists.intro); exact ⟨hR.out, rfl⟩)
          case measure => simp only [intOf, strLen0]; decide
        · have hne := ba_ne (Nat.pos_of_ne_zero hs0)
          have hfin : s.data.toList = Lib.decDigits n.natAbs := by
            rcases hor with ⟨h1, _⟩ | ⟨_, h2⟩
            · exact absurd h1 hs0
            · rw [← h2]; rfl
          have hF := Lib.hid (And.intro hfin ht)
          clear hor ht hfin
          go_wp2_with fail
          go_ret
          refine ⟨?_, hF.out.2⟩
          rw [hit'.out, ← hF.out.1]
          rfl
  | true =>
    have hn : n < 0 := by simpa using hneg
    have h' : -9223372036854775808 ≤ n := h.1
    have hu1 : IntKind.u64.wrap n = n + 18446744073709551616 := by rw [IntKind.wrap_u64]; omega
    have hst : RTxRel n.natAbs w (.string ⟨#[]⟩) (.int .u64 (-n)) w := ⟨⟨#[]⟩, n.natAbs, Nat.le_refl _, rfl, by congr 1; omega, by decide, .inl ⟨rfl, rfl⟩, Turned.refl _ _⟩
    have hst' := Lib.hid hst
    clear hst hneg
    have hu2 : IntKind.u64.wrap (-(n + 18446744073709551616)) = -n := by rw [IntKind.wrap_u64]; omega
    go_enter Tryz.func38, Tryz.ntmps38
    go_wp2
    go_loopw [3, 4] (fun v u wr => RTxRel n.natAbs w u v wr) (fun u v _ => 2 * (intOf u).toNat + strLen0 v)
    case atStart => exact hst'.out
    case round =>
      obtain ⟨s, k, hk, rfl, rfl, hs, hor, ht⟩ := hrel
      clear hst'
      have hku : (k : Int) < 18446744073709551616 := by omega
      by_cases hk0 : 0 < k
      · have hki : (0 : Int) < (k : Int) := by omega
        have hR := Lib.hid (rtx_step hk hs hor hU (.inl hk0) ht _ rfl)
        have hsl : s.size ≤ 20 := hs
        obtain ⟨K, hK⟩ : ∃ K : Int, K = (k : Int) := ⟨_, rfl⟩
        rw [← hK] at hki hku hR ⊢
        have hcv := run_conv1 wr (48 + K % 10)
        have hKK := Lib.hid hK
        have hm0 : 0 ≤ K % 10 := by omega
        have hm1 : K % 10 < 10 := by omega
        have hs1 : (strOf1 (48 + K % 10)).size = 1 := rfl
        clear hor ht hc hU hk hn h' h hit' hK hk0
        go_wp2_with fail
        go_roundw
        case rel =>
          have hq : K / 10 = ((k / 10 : Nat) : Int) := by have := hKK.out; omega
          first
          | exact hR.out
          | (rw [hq]; exact hR.out)
          | ((repeat apply Exists.intro); exact ⟨hR.out, rfl⟩)
        case measure =>
          have e0 : (strOf1 (48 + K % 10) ++ s).size ≠ 0 := by rw [strOf1_size]; omega
          have := hKK.out
          simp only [intOf, strLen0, if_neg e0]
          omega
      · obtain rfl : k = 0 := by omega
        by_cases hs0 : s.size = 0
        · obtain rfl : s = ⟨#[]⟩ := ba_empty hs0
          have hR := Lib.hid (rtx_step hk hs hor hU (.inr hs0) ht _ rfl)
          clear hor ht
          go_wp2_with fail
          go_roundw
          case rel => first | exact hR.out | ((repeat apply Exists.intro); exact ⟨hR.out, rfl⟩)
          case measure => simp only [intOf, strLen0]; decide
        · have hne := ba_ne (Nat.pos_of_ne_zero hs0)
          have hfin : s.data.toList = Lib.decDigits n.natAbs := by
            rcases hor with ⟨h1, _⟩ | ⟨_, h2⟩
            · exact absurd h1 hs0
            · rw [← h2]; rfl
          have hF := Lib.hid (And.intro hfin ht)
          clear hor ht hfin
          go_wp2_with fail
          go_ret
          refine ⟨?_, hF.out.2⟩
          rw [hit'.out, ← hF.out.1]
          rfl
theorem rtext_any (n : Int) (w : World) (h : int64 n) : Calls Tryz.prog 38 #[.int .i64 n] w (StrNew (Lib.itoa n) w) := rtext_loop _ n w h rfl
end Go.Proofs.YtglojnmcbochaaaGreatDoor

namespace Go.Proofs.YtglojnmcbochaaaGreatDoor
open Go.RowKit Go.Maps
set_option linter.unusedVariables false
set_option linter.unusedSimpArgs false

set_option maxRecDepth 100000 in
set_option maxHeartbeats 1000000 in
theorem rlot_right_any (id : Int) (item : List UInt8) (frm til qty : Int) (here : Bool) (w : World) (hs : strOk item) :
    Calls Tryz.prog 112 #[.agg #[.int .i64 id, .string ⟨item.toArray⟩, .int .i64 frm, .int .i64 til, .int .i64 qty, .bool here]] w (BoolNew (lotB ⟨id, item, frm, til, qty, here⟩) w) := by
  have hcode := Lib.hid (fun W => rcode_right_any item W hs)
  have hB := Lib.hid (lotB_eq ⟨id, item, frm, til, qty, here⟩)
  have hW := Lib.hid (show winB frm til = (decide (0 ≤ frm) && (decide (frm ≤ til) && decide (til ≤ 4001))) from rfl)
  have T0 := Lib.hid ((Turned.refl (fun _ => False) w).alloc (.cells #[.int .i64 id, .string ⟨item.toArray⟩, .int .i64 frm, .int .i64 til, .int .i64 qty, .bool here] 60))
  have fin : ∀ b : Bool, b = lotB ⟨id, item, frm, til, qty, here⟩ → ∀ W, Turned (fun _ => False) w W → BoolNew (lotB ⟨id, item, frm, til, qty, here⟩) w (.returned (.bool b)) W := fun b h W t => ⟨by rw [h], t⟩
  have fin := Lib.hid fin
  by_cases h1 : 1 ≤ id
  · go_enter Tryz.func112, Tryz.ntmps112
    go_wp2_with fail
    refine (hcode.out _).mono ?_
    rintro e w1 ⟨rfl, rfl⟩
    cases hc : codeL item with
    | false =>
      have hc' := Lib.hid hc
      clear hc
      go_wp2_with fail
      go_ret
      exact fin.out _ (by rw [hB.out]; simp [hc'.out]) _ T0.out
    | true =>
      have hc' := Lib.hid hc
      clear hc
      by_cases h2 : 0 ≤ frm
      · by_cases h3 : frm < til
        · by_cases h4 : til ≤ 4001
          · by_cases h5 : 1 ≤ qty
            · go_wp2_with fail
              go_ret
              exact fin.out _ (by rw [hB.out, hW.out, hc'.out, Bool.eq_iff_iff]; simp only [Bool.and_eq_true, decide_eq_true_eq, Bool.true_and, true_and]; constructor <;> (intro h; omega)) _ T0.out
            · go_wp2_with fail
              go_ret
              exact fin.out _ (by rw [hB.out]; symm; rw [Bool.eq_false_iff]; intro h; simp only [Bool.and_eq_true, decide_eq_true_eq] at h; omega) _ T0.out
          · go_wp2_with fail
            go_ret
            exact fin.out _ (by rw [hB.out, hW.out]; symm; rw [Bool.eq_false_iff]; intro h; simp only [Bool.and_eq_true, decide_eq_true_eq] at h; omega) _ T0.out
        · go_wp2_with fail
          go_ret
          exact fin.out _ (by rw [hB.out]; symm; rw [Bool.eq_false_iff]; intro h; simp only [Bool.and_eq_true, decide_eq_true_eq] at h; omega) _ T0.out
      · go_wp2_with fail
        go_ret
        exact fin.out _ (by rw [hB.out, hW.out]; symm; rw [Bool.eq_false_iff]; intro h; simp only [Bool.and_eq_true, decide_eq_true_eq] at h; omega) _ T0.out
  · go_enter Tryz.func112, Tryz.ntmps112
    go_wp2_with fail
    go_ret
    exact fin.out _ (by rw [hB.out]; symm; rw [Bool.eq_false_iff]; intro h; simp only [Bool.and_eq_true, decide_eq_true_eq] at h; omega) _ T0.out
theorem rtext32_any (n : Int) (w : World) (h : I64 n) : Calls Tryz.prog 39 #[.int .i64 n] w (StrNew (32 :: Lib.itoa n) w) := by
  have hc := Lib.hid (rtext_any n w h)
  have hz := Lib.itoa_length_le n h.1 h.2
  have ha := Lib.hid (show (⟨#[32]⟩ : ByteArray) ++ ⟨(Lib.itoa n).toArray⟩ = ⟨(32 :: Lib.itoa n).toArray⟩ from by
    apply ByteArray.ext
    rw [ByteArray.data_append]
    simp)
  have z1 : (⟨#[32]⟩ : ByteArray).size = 1 := rfl
  go_enter Tryz.func39, Tryz.ntmps39
  go_wp2_with fail
  refine hc.out.mono ?_
  rintro e w1 ⟨rfl, t1⟩
  have t1' := Lib.hid t1
  clear t1
  go_wp2_with fail
  go_ret
  exact ⟨congrArg (fun s => Ending.returned (.string s)) ha.out, t1'.out⟩
end Go.Proofs.YtglojnmcbochaaaGreatDoor

