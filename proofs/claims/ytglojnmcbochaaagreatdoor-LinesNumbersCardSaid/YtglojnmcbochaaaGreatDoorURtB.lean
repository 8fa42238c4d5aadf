/-
 ytglojnmcbochaaagreatdoor: laws and walks on the road to LinesNumbers, joined: CodI CodR RtA RtB. Conditions stand at each theorem.
-/
import Derived.Test.YtglojnmcbochaaaGreatDoorUCodH
import Derived.Laws.BytesArg
import Derived.Test.YtglojnmcbochaaaGreatDoorUTelB
import Derived.Test.YtglojnmcbochaaaGreatDoorUAskF
import Derived.Lib.ItoaLen
namespace Go.Proofs.YtglojnmcbochaaaGreatDoor
open Go.RowKit Go.Maps
set_option linter.unusedVariables false

theorem rnumber_any (s : ByteArray) (w : World) (hs : s.size ≤ 9223372036854775807) : Calls Tryz.prog 67 #[.string s] w (RNumPost (numL s.data.toList) w) := by
 rw [← refNum_eq]
 by_cases h0 : 0 < s.size
 ·by_cases hc : (s[0]'h0).toNat = 45
  ·exact rnumber_neg s w hs h0 hc
  ·exact rnumber_pos s w hs h0 hc
 ·obtain rfl := ba_empty (s := s) (by omega)
  have hno := hZ (refMag_no (neg := false) (d := ([] : List UInt8)) (.inl rfl))
  clear h0 hs
  go_enter Tryz.func67, Tryz.ntmps67
  go_wp2
  go_ret2
  have e : refNum (⟨#[]⟩ : ByteArray).data.toList = none := hno.out
  rw [e]
  exact ⟨rfl, rfl⟩
end Go.Proofs.YtglojnmcbochaaaGreatDoor

namespace Go.Proofs.YtglojnmcbochaaaGreatDoor
open Go.RowKit Go.Maps
set_option linter.unusedVariables false

def decTop (u : Nat) : List UInt8 := if u = 0 then [] else Lib.decDigits u
theorem decTop_step (u : Nat) (h : 0 < u) : decTop u = decTop (u / 10) ++ [UInt8.ofNat (48 + u % 10)] := by
 unfold decTop
 rw [if_neg (by omega)]
 by_cases h1 : u < 10
 ·rw [if_pos (by omega), Lib.decDigits, dif_pos h1, zH, Nat.mod_eq_of_lt h1]
 ·rw [if_neg (by omega), Lib.decDigits, dif_neg h1]
def strOf1 (z : Int) : ByteArray := strOfNums [z]
theorem strOf1_data (z : Int) : (strOf1 z).data.toList = [UInt8.ofNat z.toNat] := rfl
theorem run_conv1 (w : World) (z : Int) : (convert 106 9 (.slice (some ⟨w.heap.size, 0, none⟩) 1 1)).run Tryz.prog (w.alloc (.cells #[.int .u8 z] 5)) = .ok (.string (strOf1 z)) (w.alloc (.cells #[.int .u8 z] 5)) :=
 run_convert_bytes_arg _ 106 5 Tryz.underlying106 Tryz.underlying5 w.heap.size 0 1 1 [z] rfl (fun i hi => by
  have hb := Blk.new w 5 #[.int .u8 z]
  obtain rfl : i = 0 := by omega
  rw [hb.cell]
  rfl) 9 Tryz.underlying9
def strLen0 : Value → Nat
 | .string s => if s.size = 0 then 1 else 0
 | _ => 0
def RTxRel (U0 : Nat) (w : World) (v u : Value) (wr : World) : Prop :=
 ∃ (s : ByteArray) (k : Nat), k ≤ U0 ∧ v = .string s ∧ u = .int .u64 k ∧ s.size ≤ 20 ∧ ((s.size = 0 ∧ k = U0) ∨ (0 < s.size ∧ decTop k ++ s.data.toList = Lib.decDigits U0)) ∧ Turned (fun _ => False) w wr
theorem rtx_len {U0 k : Nat} {s : ByteArray} (h : (s.size = 0 ∧ k = U0) ∨ (0 < s.size ∧ decTop k ++ s.data.toList = Lib.decDigits U0)) (hU : U0 < 18446744073709551616) (hg : 0 < k ∨ s.size = 0) : s.size + 1 ≤ 20 := by
 have h20 : (Lib.decDigits U0).length ≤ 20 := by
  rw [Lib.decDigits_length]
  exact nDigits_le U0 20 (by omega) (by omega)
 rcases h with ⟨h1, h2⟩ | ⟨h1, h2⟩
 ·omega
 ·have hk : 0 < k := by omega
  rw [← h2, List.length_append, ba_size] at h20
  have : 0 < (decTop k).length := by
   rw [decTop_step k hk]
   simp
  omega
theorem rtx_step {U0 k : Nat} {s : ByteArray} {w wr : World} (hk : k ≤ U0) (hs : s.size ≤ 20) (h : (s.size = 0 ∧ k = U0) ∨ (0 < s.size ∧ decTop k ++ s.data.toList = Lib.decDigits U0)) (hU : U0 < 18446744073709551616) (hg : 0 < k ∨ s.size = 0) (ht : Turned (fun _ => False) w wr) (z : Int) (hz : z = 48 + (k : Int) % 10) :
  RTxRel U0 w (.string (strOf1 z ++ s)) (.int .u64 ((k / 10 : Nat) : Int)) (wr.alloc (.cells #[.int .u8 z] 5)) := by
 have hl := rtx_len h hU hg
 have hsz : (strOf1 z ++ s).size = s.size + 1 := by
  rw [← ba_size, ByteArray.data_append, Array.toList_append, List.length_append, strOf1_data, ba_size]
  simp
  omega
 refine ⟨strOf1 z ++ s, k / 10, by omega, rfl, rfl, by omega, .inr ⟨by omega, ?_⟩, ht.alloc _⟩
 rw [ByteArray.data_append, Array.toList_append, strOf1_data, hz]
 have e : (48 + (k : Int) % 10).toNat = 48 + k % 10 := by omega
 rw [e]
 rcases h with ⟨h1, h2⟩ | ⟨h1, h2⟩
 ·subst h2
  have h0 : s.data.toList = [] := List.length_eq_zero_iff.1 (by rw [ba_size]; exact h1)
  rw [h0, List.append_nil]
  by_cases hk0 : k = 0
  ·subst hk0
   rw [show (0 / 10 : Nat) = 0 by rfl, Lib.decDigits, dif_pos (by omega)]
   rfl
  ·rw [← decTop_step k (by omega)]
   unfold decTop
   rw [if_neg hk0]
 ·by_cases hk0 : k = 0
  ·omega
  ·rw [← h2, decTop_step k (by omega), List.append_assoc]
theorem strOf1_size (z : Int) (s : ByteArray) : (strOf1 z ++ s).size = s.size + 1 := by
 rw [← ba_size, ByteArray.data_append, Array.toList_append, List.length_append, strOf1_data, ba_size]
 simp
 omega
set_option maxRecDepth 100000 in
set_option maxHeartbeats 1000000 in
theorem rtext_loop (neg : Bool) (n : Int) (w : World) (h : int64 n) (hneg : decide (n < 0) = neg) :
  Calls Tryz.prog 38 #[.int .i64 n] w (StrNew (Lib.itoa n) w) := by
 have hc := fun (w : World) (z : Int) => run_conv1 w z
 have hU : n.natAbs < 18446744073709551616 := by unfold int64 at h; omega
 have hit : Lib.itoa n = if neg = true then 45 :: Lib.decDigits n.natAbs else Lib.decDigits n.natAbs := by
  unfold Lib.itoa
  subst hneg
  by_cases hn : n < 0
  ·rw [if_pos hn, if_pos (by simpa using hn)]
  ·rw [if_neg hn, if_neg (by simpa using hn)]
   congr 1
   omega
 have hit' := hZ hit
 clear hit
 cases neg with
 | false =>
  have hn : 0 ≤ n := by simpa using hneg
  have h' : n ≤ 9223372036854775807 := h.2
  have hst : RTxRel n.natAbs w (.string ⟨#[]⟩) (.int .u64 n) w := ⟨⟨#[]⟩, n.natAbs, Nat.le_refl _, rfl, by congr 1; omega, by decide, .inl ⟨rfl, rfl⟩, Turned.refl _ _⟩
  have hst' := hZ hst
  clear hst hneg
  go_enter Tryz.func38, Tryz.ntmps38
  go_wp2
  go_loopw [3, 4] (fun v u wr => RTxRel n.natAbs w u v wr) (fun u v _ => 2 * (intOf u).toNat + strLen0 v)
  case atStart => exact hst'.out
  case round =>
   obtain ⟨s, k, hk, rfl, rfl, hs, hor, ht⟩ := hrel
   clear hst'
   have hku : (k : Int) < 18446744073709551616 := by omega
   by_cases hk0 : 0 < k
   ·have hki : (0 : Int) < (k : Int) := by omega
    have hR := hZ (rtx_step hk hs hor hU (.inl hk0) ht _ rfl)
    have hsl : s.size ≤ 20 := hs
    obtain ⟨K, hK⟩ : ∃ K : Int, K = (k : Int) := ⟨_, rfl⟩
    rw [← hK] at hki hku hR ⊢
    have hcv := run_conv1 wr (48 + K % 10)
    have hKK := hZ hK
    have hm0 : 0 ≤ K % 10 := by omega
    have hm1 : K % 10 < 10 := by omega
    have hs1 : (strOf1 (48 + K % 10)).size = 1 := rfl
    clear hor ht hc hU hk hn h' h hit' hK hk0
    go_wp2_with fail
    go_roundw
    case rel =>
     have hq : K / 10 = ((k / 10 : Nat) : Int) := by have := hKK.out; omega
     first
     | exact hR.out
     | (rw [hq]; exact hR.out)
     | ((repeat apply Exists.intro); exact ⟨hR.out, rfl⟩)
    case measure =>
     have e0 : (strOf1 (48 + K % 10) ++ s).size ≠ 0 := by rw [strOf1_size]; omega
     have := hKK.out
     simp only [intOf, strLen0, if_neg e0]
     omega
   ·obtain rfl : k = 0 := by omega
    by_cases hs0 : s.size = 0
    ·obtain rfl : s = ⟨#[]⟩ := ba_empty hs0
     have hR := hZ (rtx_step hk hs hor hU (.inr hs0) ht _ rfl)
     clear hor ht
     go_wp2_with fail
     go_roundw
     case rel => first | exact hR.out | ((repeat apply Exists.intro); exact ⟨hR.out, rfl⟩)
     case measure => simp only [intOf, strLen0]; decide
    ·have hne := ba_ne (Nat.pos_of_ne_zero hs0)
     have hfin : s.data.toList = Lib.decDigits n.natAbs := by
      rcases hor with ⟨h1, _⟩ | ⟨_, h2⟩
      ·exact absurd h1 hs0
      ·rw [← h2]; rfl
     have hF := hZ (And.intro hfin ht)
     clear hor ht hfin
     go_wp2_with fail
     go_ret
     refine ⟨?_, hF.out.2⟩
     rw [hit'.out, ← hF.out.1]
     rfl
 | true =>
  have hn : n < 0 := by simpa using hneg
  have h' : -9223372036854775808 ≤ n := h.1
  have hu1 : IntKind.u64.wrap n = n + 18446744073709551616 := by rw [IntKind.wrap_u64]; omega
  have hst : RTxRel n.natAbs w (.string ⟨#[]⟩) (.int .u64 (-n)) w := ⟨⟨#[]⟩, n.natAbs, Nat.le_refl _, rfl, by congr 1; omega, by decide, .inl ⟨rfl, rfl⟩, Turned.refl _ _⟩
  have hst' := hZ hst
  clear hst hneg
  have hu2 : IntKind.u64.wrap (-(n + 18446744073709551616)) = -n := by rw [IntKind.wrap_u64]; omega
  go_enter Tryz.func38, Tryz.ntmps38
  go_wp2
  go_loopw [3, 4] (fun v u wr => RTxRel n.natAbs w u v wr) (fun u v _ => 2 * (intOf u).toNat + strLen0 v)
  case atStart => exact hst'.out
  case round =>
   obtain ⟨s, k, hk, rfl, rfl, hs, hor, ht⟩ := hrel
   clear hst'
   have hku : (k : Int) < 18446744073709551616 := by omega
   by_cases hk0 : 0 < k
   ·have hki : (0 : Int) < (k : Int) := by omega
    have hR := hZ (rtx_step hk hs hor hU (.inl hk0) ht _ rfl)
    have hsl : s.size ≤ 20 := hs
    obtain ⟨K, hK⟩ : ∃ K : Int, K = (k : Int) := ⟨_, rfl⟩
    rw [← hK] at hki hku hR ⊢
    have hcv := run_conv1 wr (48 + K % 10)
    have hKK := hZ hK
    have hm0 : 0 ≤ K % 10 := by omega
    have hm1 : K % 10 < 10 := by omega
    have hs1 : (strOf1 (48 + K % 10)).size = 1 := rfl
    clear hor ht hc hU hk hn h' h hit' hK hk0
    go_wp2_with fail
    go_roundw
    case rel =>
     have hq : K / 10 = ((k / 10 : Nat) : Int) := by have := hKK.out; omega
     first
     | exact hR.out
     | (rw [hq]; exact hR.out)
     | ((repeat apply Exists.intro); exact ⟨hR.out, rfl⟩)
    case measure =>
     have e0 : (strOf1 (48 + K % 10) ++ s).size ≠ 0 := by rw [strOf1_size]; omega
     have := hKK.out
     simp only [intOf, strLen0, if_neg e0]
     omega
   ·obtain rfl : k = 0 := by omega
    by_cases hs0 : s.size = 0
    ·obtain rfl : s = ⟨#[]⟩ := ba_empty hs0
     have hR := hZ (rtx_step hk hs hor hU (.inr hs0) ht _ rfl)
     clear hor ht
     go_wp2_with fail
     go_roundw
     case rel => first | exact hR.out | ((repeat apply Exists.intro); exact ⟨hR.out, rfl⟩)
     case measure => simp only [intOf, strLen0]; decide
    ·have hne := ba_ne (Nat.pos_of_ne_zero hs0)
     have hfin : s.data.toList = Lib.decDigits n.natAbs := by
      rcases hor with ⟨h1, _⟩ | ⟨_, h2⟩
      ·exact absurd h1 hs0
      ·rw [← h2]; rfl
     have hF := hZ (And.intro hfin ht)
     clear hor ht hfin
     go_wp2_with fail
     go_ret
     refine ⟨?_, hF.out.2⟩
     rw [hit'.out, ← hF.out.1]
     rfl
theorem rtext_any (n : Int) (w : World) (h : int64 n) : Calls Tryz.prog 38 #[.int .i64 n] w (StrNew (Lib.itoa n) w) := rtext_loop _ n w h rfl
end Go.Proofs.YtglojnmcbochaaaGreatDoor

namespace Go.Proofs.YtglojnmcbochaaaGreatDoor
open Go.RowKit Go.Maps
set_option linter.unusedVariables false
set_option linter.unusedSimpArgs false

set_option maxRecDepth 100000 in
set_option maxHeartbeats 1000000 in
theorem rlot_right_any (id : Int) (item : List UInt8) (frm til qty : Int) (here : Bool) (w : World) (hs : strOk item) :
  Calls Tryz.prog 112 #[.agg #[.int .i64 id, .string ⟨item.toArray⟩, .int .i64 frm, .int .i64 til, .int .i64 qty, .bool here]] w (BoolNew (lotB ⟨id, item, frm, til, qty, here⟩) w) := by
 have hcode := hZ (fun W => rcode_right_any item W hs)
 have hB := hZ (lotB_eq ⟨id, item, frm, til, qty, here⟩)
 have hW := hZ (show winB frm til = (decide (0 ≤ frm) && (decide (frm ≤ til) && decide (til ≤ 4001))) from rfl)
 have T0 := hZ ((Turned.refl (fun _ => False) w).alloc (.cells #[.int .i64 id, .string ⟨item.toArray⟩, .int .i64 frm, .int .i64 til, .int .i64 qty, .bool here] 60))
 have fin : ∀ b : Bool, b = lotB ⟨id, item, frm, til, qty, here⟩ → ∀ W, Turned (fun _ => False) w W → BoolNew (lotB ⟨id, item, frm, til, qty, here⟩) w (.returned (.bool b)) W := fun b h W t => ⟨by rw [h], t⟩
 have fin := hZ fin
 by_cases h1 : 1 ≤ id
 ·go_enter Tryz.func112, Tryz.ntmps112
  go_wp2_with fail
  refine (hcode.out _).mono ?_
  rintro e w1 ⟨rfl, rfl⟩
  cases hc : codeL item with
  | false =>
   have hc' := hZ hc
   clear hc
   go_wp2_with fail
   go_ret
   exact fin.out _ (by rw [hB.out]; simp [hc'.out]) _ T0.out
  | true =>
   have hc' := hZ hc
   clear hc
   by_cases h2 : 0 ≤ frm
   ·by_cases h3 : frm < til
    ·by_cases h4 : til ≤ 4001
     ·by_cases h5 : 1 ≤ qty
      ·go_wp2_with fail
       go_ret
       exact fin.out _ (by rw [hB.out, hW.out, hc'.out, Bool.eq_iff_iff]; simp only [zD, zE, Bool.true_and, true_and]; constructor <;> (intro h; omega)) _ T0.out
      ·go_wp2_with fail
       go_ret
       exact fin.out _ (by rw [hB.out]; symm; rw [Bool.eq_false_iff]; intro h; simp only [zD, zE] at h; omega) _ T0.out
     ·go_wp2_with fail
      go_ret
      exact fin.out _ (by rw [hB.out, hW.out]; symm; rw [Bool.eq_false_iff]; intro h; simp only [zD, zE] at h; omega) _ T0.out
    ·go_wp2_with fail
     go_ret
     exact fin.out _ (by rw [hB.out]; symm; rw [Bool.eq_false_iff]; intro h; simp only [zD, zE] at h; omega) _ T0.out
   ·go_wp2_with fail
    go_ret
    exact fin.out _ (by rw [hB.out, hW.out]; symm; rw [Bool.eq_false_iff]; intro h; simp only [zD, zE] at h; omega) _ T0.out
 ·go_enter Tryz.func112, Tryz.ntmps112
  go_wp2_with fail
  go_ret
  exact fin.out _ (by rw [hB.out]; symm; rw [Bool.eq_false_iff]; intro h; simp only [zD, zE] at h; omega) _ T0.out
theorem rtext32_any (n : Int) (w : World) (h : I64 n) : Calls Tryz.prog 39 #[.int .i64 n] w (StrNew (32 :: Lib.itoa n) w) := by
 have hc := hZ (rtext_any n w h)
 have hz := Lib.itoa_length_le n h.1 h.2
 have ha := hZ (show (⟨#[32]⟩ : ByteArray) ++ ⟨(Lib.itoa n).toArray⟩ = ⟨(32 :: Lib.itoa n).toArray⟩ from by
  apply ByteArray.ext
  rw [ByteArray.data_append]
  simp)
 have z1 : (⟨#[32]⟩ : ByteArray).size = 1 := rfl
 go_enter Tryz.func39, Tryz.ntmps39
 go_wp2_with fail
 refine hc.out.mono ?_
 rintro e w1 ⟨rfl, t1⟩
 have t1' := hZ t1
 clear t1
 go_wp2_with fail
 go_ret
 exact ⟨congrArg (fun s => Ending.returned (.string s)) ha.out, t1'.out⟩
end Go.Proofs.YtglojnmcbochaaaGreatDoor

namespace Go.Proofs.YtglojnmcbochaaaGreatDoor
open Go.RowKit Go.Maps
set_option linter.unusedVariables false
set_option linter.unusedSimpArgs false

set_option maxRecDepth 100000 in
set_option maxHeartbeats 4000000 in
theorem rtell_right_any (t : TellV) (S : TellS) (w : World) (h : TellIs w t S) (hok : t.Ok) : Calls Tryz.prog 82 #[.agg (tellC t S)] w (BoolNew (rightT t) w) := by
 have hR := rightT_eq t (by have := hok.id; unfold I64 at this; omega)
 have hcode := hZ (fun W => rcode_right_any t.code W hok.code)
 have hl1 := SlL.len h.lots
 have hl2 := SlU.len h.uses
 have hb1 := Nat.le_trans h.lots.le h.lots.max
 have hb2 := Nat.le_trans h.uses.le h.uses.max
 unfold maxLen at hb1 hb2
 have hLk := hok.lots
 have hst := hok.state
 have hid := hok.id
 have hdy := hok.day
 unfold isByte at hst
 unfold I64 at hid hdy
 obtain ⟨er, id, dy, cd, st, lots, uses⟩ := t
 obtain ⟨⟨LA, Ln, Lc⟩, ⟨UA, Un, Uc⟩⟩ := S
 simp only at hR hcode hl1 hl2 hb1 hb2 hLk hst hid hdy
 have hL := hZ h.lots
 have hU := hZ h.uses
 have hLk' := hZ hLk
 have hR' := hZ hR
 have hl1' := hZ hl1
 have hl2' := hZ hl2
 clear h hok hl1 hl2 hLk hR
 unfold tellC strV
 simp only
 have hsl0 : (⟨cd.toArray⟩ : ByteArray).toList = cd := by rw [ByteArray.toList_eq]
 generalize (⟨cd.toArray⟩ : ByteArray) = str at *
 have hsl := hZ hsl0
 clear hsl0
 go_enter Tryz.func82, Tryz.ntmps82
 go_upto_region 1 with fail
 have T0 := hZ ((Turned.refl (fun _ => False) w).alloc (.cells #[.int .i64 er, .int .i64 id, .int .i64 dy, .string str, .int .u8 st, .slice LA Ln Lc, .slice UA Un Uc] 42))
 have B0 := hZ (Blk.new w 42 #[.int .i64 er, .int .i64 id, .int .i64 dy, .string str, .int .u8 st, .slice LA Ln Lc, .slice UA Un Uc])
 obtain ⟨W1, hW1⟩ : ∃ W1, W1 = w.alloc (.cells #[.int .i64 er, .int .i64 id, .int .i64 dy, .string str, .int .u8 st, .slice LA Ln Lc, .slice UA Un Uc] 42) := ⟨_, rfl⟩
 rw [← hW1] at T0 B0 ⊢
 clear hW1
 obtain ⟨b1, hb⟩ : ∃ b1, w.heap.size = b1 := ⟨_, rfl⟩
 rw [hb] at B0 ⊢
 clear hb
 obtain ⟨x0, x1, x2, x3, x4, x5, x6⟩ := B0.out.cells7
 by_cases k1 : er < 0
 ·go_wp2_with fail
  go_ret
  exact ⟨ret_bool (by rw [hR'.out, if_pos (.inl k1)]), T0.out⟩
 by_cases k2 : 999 < er
 ·go_wp2_with fail
  go_ret
  exact ⟨ret_bool (by rw [hR'.out, if_pos (.inr k2)]), T0.out⟩
 have hR2 := hZ (show rightT ⟨er, id, dy, cd, st, lots, uses⟩ = (if 0 < er then bareT ⟨er, id, dy, cd, st, lots, uses⟩ else if wrongT ⟨er, id, dy, cd, st, lots, uses⟩ then false else (lots.all lotB && uses.all useB)) from by rw [hR'.out, if_neg (by omega)])
 clear hR'
 by_cases k3 : er = 0
 case neg =>
  have k3b : (er != 0) = true := by simp [k3]
  have hR3 := hZ (show rightT ⟨er, id, dy, cd, st, lots, uses⟩ = bareT ⟨er, id, dy, cd, st, lots, uses⟩ from by rw [hR2.out, if_pos (by omega)])
  clear hR2
  by_cases h1 : id = 0
  ·have e1 : (id == 0) = true := by rw [h1]; rfl
   have h1' := hZ h1
   clear h1
   by_cases h2 : dy = 0
   ·have e2 : (dy == 0) = true := by rw [h2]; rfl
    have h2' := hZ h2
    clear h2
    by_cases h3 : cd = []
    ·have e3 : str.toList = [] := by rw [hsl.out, h3]
     have e4 : str.toList.isEmpty = true := by rw [e3]; rfl
     have h3' := hZ h3
     clear h3
     by_cases h4 : st = 0
     ·have e5 : (st == 0) = true := by rw [h4]; rfl
      have h4' := hZ h4
      clear h4
      go_wp2_with fail
      go_ret
      refine ⟨ret_bool ?_, T0.out⟩
      rw [hR3.out]
      unfold bareT
      rw [h1'.out, h2'.out, h3'.out, h4'.out]
      have hz := wrap_zero Ln Un (by omega) (by omega)
      have g1 : (lots = []) ↔ Ln = 0 := by rw [← hl1'.out]; exact List.length_eq_zero_iff.symm
      have g2 : (uses = []) ↔ Un = 0 := by rw [← hl2'.out]; exact List.length_eq_zero_iff.symm
      rw [Bool.eq_iff_iff]
      simp only [beq_iff_eq, zD, zE, g1, g2, hz, true_and]
      omega
     ·have e5 : (st == 0) = false := beq_eq_false_iff_ne.2 h4
      go_wp2_with fail
      go_ret
      exact ⟨ret_bool (by rw [hR3.out]; unfold bareT; simp [h4]), T0.out⟩
    ·have e3 : str.toList ≠ [] := by rw [hsl.out]; exact h3
     have e4 : str.toList.isEmpty = false := by rw [hsl.out]; cases cd with | nil => exact absurd rfl h3 | cons a l => rfl
     have h3' := hZ h3
     clear h3
     go_wp2_with fail
     go_ret
     exact ⟨ret_bool (by rw [hR3.out]; unfold bareT; simp [h3'.out]), T0.out⟩
   ·have e2 : (dy == 0) = false := beq_eq_false_iff_ne.2 h2
    go_wp2_with fail
    go_ret
    exact ⟨ret_bool (by rw [hR3.out]; unfold bareT; simp [h2]), T0.out⟩
  ·have e1 : (id == 0) = false := beq_eq_false_iff_ne.2 h1
   go_wp2_with fail
   go_ret
   exact ⟨ret_bool (by rw [hR3.out]; unfold bareT; simp [h1]), T0.out⟩
 case pos =>
  have hw := hZ (show wrongT ⟨er, id, dy, cd, st, lots, uses⟩ = (decide (id < 0) || (decide (dy < -1) || (decide (4000 < dy) || ((!decide (cd = []) && !codeL cd) || (decide (3 < st) || (decide (300 < Ln) || decide (2000 < Un))))))) from by unfold wrongT; rw [hl1'.out, hl2'.out])
  generalize wrongT ⟨er, id, dy, cd, st, lots, uses⟩ = wrg at *
  have hR3 := hZ (show rightT ⟨er, id, dy, cd, st, lots, uses⟩ = (if wrg then false else (lots.all lotB && uses.all useB)) from by rw [hR2.out, if_neg (by omega)])
  clear hR2
  have k3b : (er != 0) = false := by simp [k3]
  have k3h := hZ k3
  clear k3
  go_upto_region 5 with fail
  go_cut [84] from 44 to 84 (fun u84 wd => u84 = .bool wrg ∧ Blk wd b1 42 #[.int .i64 er, .int .i64 id, .int .i64 dy, .string str, .int .u8 st, .slice LA Ln Lc, .slice UA Un Uc] ∧ Turned (fun _ => False) w wd)
  case first =>
   by_cases h1 : id < 0
   ·go_wp2_with fail
    go_meet
    exact ⟨congrArg Value.bool (by rw [hw.out]; simp [h1]), B0.out, T0.out⟩
   by_cases h2 : dy < -1
   ·go_wp2_with fail
    go_meet
    exact ⟨congrArg Value.bool (by rw [hw.out]; simp [h2]), B0.out, T0.out⟩
   by_cases h3 : 4000 < dy
   ·go_wp2_with fail
    go_meet
    exact ⟨congrArg Value.bool (by rw [hw.out]; simp [h3]), B0.out, T0.out⟩
   by_cases h4 : cd = []
   ·have e3 : str.toList = [] := by rw [hsl.out, h4]
    have e4 : str.toList.isEmpty = true := by rw [e3]; rfl
    have h4' := hZ h4
    clear h4
    by_cases h5 : 3 < st
    ·go_wp2_with fail
     go_meet
     exact ⟨congrArg Value.bool (by rw [hw.out]; simp [h5]), B0.out, T0.out⟩
    ·by_cases h6 : 300 < Ln
     ·have h6i : (300 : Int) < (Ln : Int) := by omega
      go_wp2_with fail
      go_meet
      exact ⟨congrArg Value.bool (by rw [hw.out]; simp [h6]), B0.out, T0.out⟩
     ·have h6i : ¬ (300 : Int) < (Ln : Int) := by omega
      by_cases h7 : 2000 < Un
      ·have h7i : (2000 : Int) < (Un : Int) := by omega
       go_wp2_with fail
       go_meet
       exact ⟨congrArg Value.bool (by rw [hw.out]; simp [h7]), B0.out, T0.out⟩
      ·have h7i : ¬ (2000 : Int) < (Un : Int) := by omega
       go_wp2_with fail
       go_meet
       exact ⟨congrArg Value.bool (by rw [hw.out]; simp [h1, h2, h3, h5, h6, h7, h4'.out]), B0.out, T0.out⟩
   ·have e3 : str.toList ≠ [] := by rw [hsl.out]; exact h4
    have e4 : str.toList.isEmpty = false := by rw [hsl.out]; cases cd with | nil => exact absurd rfl h4 | cons a l => rfl
    have h4' := hZ h4
    clear h4
    go_wp2_with fail
    refine (hcode.out _).mono ?_
    rintro e w1 ⟨rfl, rfl⟩
    have T1 := T0
    have B1 := B0
    clear hcode
    cases hc : codeL cd with
    | false =>
     have hc' := hZ hc
     clear hc
     go_wp2_with fail
     go_meet
     exact ⟨congrArg Value.bool (by rw [hw.out]; simp [h4'.out, hc'.out]), B1.out, T1.out⟩
    | true =>
     have hc' := hZ hc
     clear hc
     by_cases h5 : 3 < st
     ·go_wp2_with fail
      go_meet
      exact ⟨congrArg Value.bool (by rw [hw.out]; simp [h5]), B1.out, T1.out⟩
     ·by_cases h6 : 300 < Ln
      ·have h6i : (300 : Int) < (Ln : Int) := by omega
       go_wp2_with fail
       go_meet
       exact ⟨congrArg Value.bool (by rw [hw.out]; simp [h6]), B1.out, T1.out⟩
      ·have h6i : ¬ (300 : Int) < (Ln : Int) := by omega
       by_cases h7 : 2000 < Un
       ·have h7i : (2000 : Int) < (Un : Int) := by omega
        go_wp2_with fail
        go_meet
        exact ⟨congrArg Value.bool (by rw [hw.out]; simp [h7]), B1.out, T1.out⟩
       ·have h7i : ¬ (2000 : Int) < (Un : Int) := by omega
        go_wp2_with fail
        go_meet
        exact ⟨congrArg Value.bool (by rw [hw.out, Bool.eq_iff_iff]; simp only [hc'.out, Bool.not_true, Bool.and_false, Bool.or_eq_true, zE, Bool.false_eq_true, false_or]; omega), B1.out, T1.out⟩
  case rest =>
   obtain ⟨rfl, hB1, hT1⟩ := hcut
   have B1 := hZ hB1
   have T1 := hZ hT1
   clear hB1 hT1 x0 x1 x2 x3 x4 x5 x6 B0 T0 hw hcode
   obtain ⟨x0, x1, x2, x3, x4, x5, x6⟩ := B1.out.cells7
   cases wrg with
   | true =>
    go_wp2_with fail
    go_ret
    exact ⟨ret_bool (by rw [hR3.out]; rfl), T1.out⟩
   | false =>
    have hR4 := hZ (show rightT ⟨er, id, dy, cd, st, lots, uses⟩ = (lots.all lotB && uses.all useB) from hR3.out)
    clear hR3
    go_wp2_with fail
    clear x0 x1 x2 x3 x4 x5 x6
    go_loopw [3] (fun i wr => TrRel Ln w b1 #[.int .i64 er, .int .i64 id, .int .i64 dy, .string str, .int .u8 st, .slice LA Ln Lc, .slice UA Un Uc] (fun j => (lots.take j).all lotB = true) i wr) (fun i _ => Ln - (intOf i).toNat)
    case atStart => exact ⟨0, Nat.zero_le _, rfl, rfl, B1.out, T1.out⟩
    case round =>
     obtain ⟨j, hj, rfl, hp, hBr, hTr⟩ := hrel
     have hp' := hZ hp
     have BR := hZ hBr
     have TR := hZ hTr
     clear hp hBr hTr
     by_cases hlt : j < Ln
     ·have hji : (j : Int) < (Ln : Int) := by omega
      obtain ⟨bl, off, hA, hc⟩ := SlL.cells (SlE.fresh hL.out TR.out : SlL wr ⟨LA, Ln, Lc⟩ lots) (show 0 < Ln by omega)
      simp only at hA
      subst hA
      obtain ⟨q0, q1, q2, q3, q4, q5⟩ := hc j hlt
      have hjl := hZ (show j < lots.length by rw [hl1'.out]; exact hlt)
      have hm := hZ (all_take lotB lots LotV.zero j hjl.out)
      have hn := hZ (fun h => all_no lotB lots LotV.zero j hjl.out h)
      have hi := (hLk'.out (lots.getD j LotV.zero) (by rw [List.getD_eq_getElem?_getD, List.getElem?_eq_getElem hjl.out]; exact List.getElem_mem hjl.out)).item
      clear hc
      generalize lots.getD j LotV.zero = L at *
      obtain ⟨l0, l1, l2, l3, l4, l5⟩ := L
      simp only at q0 q1 q2 q3 q4 q5 hi
      obtain ⟨x0, x1, x2, x3, x4, x5, x6⟩ := BR.out.cells7
      go_wp2_with fail
      refine (rlot_right_any l0 l1 l2 l3 l4 l5 _ hi).mono ?_
      rintro e w5 ⟨rfl, t5⟩
      have t5' := hZ (TR.out.and_ t5)
      have BR' := hZ (BR.out.turned t5 (fun e => e))
      clear q0 q1 q2 q3 q4 q5 t5 BR TR x0 x1 x2 x3 x4 x5 x6
      cases hb : lotB ⟨l0, l1, l2, l3, l4, l5⟩ with
      | false =>
       have hn' := hZ (hn.out hb)
       clear hb
       go_wp2_with fail
       go_ret
       exact ⟨ret_bool (by rw [hR4.out, hn'.out]; rfl), t5'.out⟩
      | true =>
       have hb' := hZ hb
       clear hb
       go_wp2_with fail
       go_roundw
       case rel => exact ⟨j + 1, hlt, by go_num, (show (lots.take (j + 1)).all lotB = true from by rw [hm.out, hp'.out, hb'.out]; rfl), BR'.out, t5'.out⟩
       case measure => simp [intOf] <;> omega
     ·have hge : (Ln : Int) ≤ (j : Int) := by omega
      have hp2 := hZ (show lots.all lotB = true from by have := hp'.out; rw [List.take_of_length_le (by rw [hl1'.out]; omega)] at this; exact this)
      clear hp'
      obtain ⟨x0, x1, x2, x3, x4, x5, x6⟩ := BR.out.cells7
      go_wp2_with fail
      clear x0 x1 x2 x3 x4 x5 x6
      have hst2 := hZ (show TrRel Un w b1 #[.int .i64 er, .int .i64 id, .int .i64 dy, .string str, .int .u8 st, .slice LA Ln Lc, .slice UA Un Uc] (fun j => (uses.take j).all useB = true) (.int .i64 0) wr from ⟨0, Nat.zero_le _, rfl, rfl, BR.out, TR.out⟩)
      clear BR TR
      go_loopw [4] (fun i wr => TrRel Un w b1 #[.int .i64 er, .int .i64 id, .int .i64 dy, .string str, .int .u8 st, .slice LA Ln Lc, .slice UA Un Uc] (fun j => (uses.take j).all useB = true) i wr) (fun i _ => Un - (intOf i).toNat)
      case atStart => exact hst2.out
      case round =>
       obtain ⟨j2, hj2, rfl, hp, hBr, hTr⟩ := hrel
       have hp' := hZ hp
       have BR := hZ hBr
       have TR := hZ hTr
       clear hp hBr hTr hst2
       by_cases hlt2 : j2 < Un
       ·have hji2 : (j2 : Int) < (Un : Int) := by omega
        obtain ⟨bl, off, hA, hc⟩ := SlU.cells (SlE.fresh hU.out TR.out) (show 0 < Un by omega)
        simp only at hA
        subst hA
        obtain ⟨q0, q1, q2⟩ := hc j2 hlt2
        have hjl := hZ (show j2 < uses.length by rw [hl2'.out]; exact hlt2)
        have hm := hZ (all_take useB uses UseV.zero j2 hjl.out)
        have hn := hZ (fun h => all_no useB uses UseV.zero j2 hjl.out h)
        clear hc
        generalize uses.getD j2 UseV.zero = L at *
        obtain ⟨l0, l1, l2⟩ := L
        simp only at q0 q1 q2
        have t5' := TR
        have BR' := BR
        obtain ⟨x0, x1, x2, x3, x4, x5, x6⟩ := BR.out.cells7
        by_cases g1 : l0 < 0
        ·have hn' := hZ (hn.out (by unfold useB; simp; omega))
         go_wp2_with fail
         go_ret
         exact ⟨ret_bool (by rw [hR4.out, hn'.out, Bool.and_false]), t5'.out⟩
        by_cases g2 : l1 < 1
        ·have hn' := hZ (hn.out (by unfold useB; simp; omega))
         go_wp2_with fail
         go_ret
         exact ⟨ret_bool (by rw [hR4.out, hn'.out, Bool.and_false]), t5'.out⟩
        by_cases g3 : l2 < 1
        ·have hn' := hZ (hn.out (by unfold useB; simp; omega))
         go_wp2_with fail
         go_ret
         exact ⟨ret_bool (by rw [hR4.out, hn'.out, Bool.and_false]), t5'.out⟩
        have hb' := hZ (show useB ⟨l0, l1, l2⟩ = true from by unfold useB; simp; omega)
        go_wp2_with fail
        go_roundw
        case rel => exact ⟨j2 + 1, hlt2, by go_num, (show (uses.take (j2 + 1)).all useB = true from by rw [hm.out, hp'.out, hb'.out]; rfl), BR'.out, t5'.out⟩
        case measure => simp [intOf] <;> omega
       ·have hge2 : (Un : Int) ≤ (j2 : Int) := by omega
        have hp3 := hZ (show uses.all useB = true from by have := hp'.out; rw [List.take_of_length_le (by rw [hl2'.out]; omega)] at this; exact this)
        obtain ⟨x0, x1, x2, x3, x4, x5, x6⟩ := BR.out.cells7
        go_wp2_with fail
        go_ret
        exact ⟨ret_bool (by rw [hR4.out, hp2.out, hp3.out]; rfl), TR.out⟩
end Go.Proofs.YtglojnmcbochaaaGreatDoor

