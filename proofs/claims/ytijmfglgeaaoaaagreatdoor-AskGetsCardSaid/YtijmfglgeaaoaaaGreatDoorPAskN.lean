/-
  ask.number: a number in so many bytes; and append as an operation of a region that draws its order. No condition but the number of bytes.
-/
import Derived.Test.YtijmfglgeaaoaaaGreatDoorPAskB
import Derived.Test.YtijmfglgeaaoaaaGreatDoorPRegD
import Derived.IntWalk
namespace Go.Proofs.YtijmfglgeaaoaaaGreatDoor
open Go.RowKit Go.Maps
set_option linter.unusedVariables false
set_option linter.unusedSimpArgs false

theorem u8T : EltT Tryz.prog 22 5 1 1 (.int .u8 0) := ⟨Tryz.underlying22, by kernel_rfl, rfl, by omega⟩
theorem wp_appE {P : Program} {w : World} {S U q bytes : Nat} {z : Value} {A : Option Addr} {n c : Nat} {xs : List Value} {o : Oper} {a : Act} {K : Act → World → Prop} {Q : Exit → Act → World → Prop} (E : EltT P S U q bytes z) (s x : Operand) (ho : o.op = .call { callee := .builtin .append, args := #[s, x], argTypes := #[S, S] })
    (h : OwnE w U q A n c xs) (ad : Addr) (m cc : Nat) (ys : List Value) (hl : ys.length = m * q) (hnews : ∀ j u, ys[j]? = some u → w.cell? (ad.add j) = some u) (h1 : ∀ u ∈ ys, u.oneCell' = true) (hm : 0 < m) (hmx : n + m ≤ maxLen) (hb : (n + m) * bytes ≤ 140737488355328) (hs : a.eval s = .slice A n c) (hx : a.eval x = .slice (some ad) m cc)
    (hC : ∀ A' c' w', OwnE w' U q A' (n + m) c' (xs ++ ys) → App2 w w' A A' c c' → K (a.put o.dst (.slice A' (n + m) c')) w') : o.wp P a w K Q := by
  obtain ⟨A', c', w', hrun, h2, h3⟩ := run_appE (ty := o.type) E h ad m cc ys hl hnews h1 hm hmx hb
  exact Lib.wp_append_run w s x S S ho _ _ hs hx _ _ hrun (hC A' c' w' h2 h3)
theorem u8s_app (a b : List Int) : u8s (a ++ b) = u8s a ++ u8s b := by simp [u8s]
/-- append of bytes that lie in memory of their own. -/
theorem wp_appB {w : World} {A A2 : Option Addr} {n c m c2 : Nat} {zs ys : List Int} {o : Oper} {a : Act} {K : Act → World → Prop} {Q : Exit → Act → World → Prop} (s x : Operand) (ho : o.op = .call { callee := .builtin .append, args := #[s, x], argTypes := #[22, 22] })
    (h : OwnV w A n c zs) (h2 : OwnV w A2 m c2 ys) (hm : 0 < m) (hb : n + m ≤ 140737488355328) (hs : a.eval s = .slice A n c) (hx : a.eval x = .slice A2 m c2)
    (hC : ∀ A' c' w', OwnV w' A' (n + m) c' (zs ++ ys) → App2 w w' A A' c c' → K (a.put o.dst (.slice A' (n + m) c')) w') : o.wp Tryz.prog a w K Q := by
  obtain ⟨g, rfl, hr⟩ := h2.some_ hm
  refine wp_appE u8T s x ho (h : OwnE w 5 1 A n c (u8s zs)) ⟨g, 0, none⟩ m c2 (u8s ys) (by rw [u8s_length, h2.len, Nat.mul_one]) (news_of_row hr) (u8s_one ys) hm (by unfold maxLen; omega) (by omega) hs hx ?_
  intro A' c' w' ho' hor
  rw [← u8s_app] at ho'
  exact hC A' c' w' ho' hor
def ANumRel (n : Int) (k : Nat) (w : World) (i : Value) (wr : World) : Prop :=
  ∃ j : Nat, j ≤ k ∧ i = .int .i64 j ∧ RowB wr 5 w.heap.size k k (beTo k n j ++ List.replicate (k - j) 0) ∧ Turned (fun _ => False) w wr
theorem be_set (k : Nat) (n : Int) (j : Nat) (hj : j < k) : (beTo k n j ++ List.replicate (k - j) 0).set j (beAt k n j) = beTo k n (j + 1) ++ List.replicate (k - (j + 1)) 0 := by
  rw [show k - j = (k - (j + 1)) + 1 by omega, List.replicate_succ, List.set_append_right _ _ (by rw [beTo_length]; omega), beTo_length, Nat.sub_self, List.set_cons_zero, beTo_succ, List.append_assoc]
  rfl
set_option maxRecDepth 100000 in
set_option maxHeartbeats 1000000 in
theorem anum_any (n : Int) (k : Nat) (w : World) (hk1 : 1 ≤ k) (hk : k ≤ 8) : Calls Tryz.prog 43 #[.int .i64 n, .int .i64 k] w (PutPost (be k n) w) := by
  obtain ⟨i0, hi, hz0, hz1, hz2⟩ := info_parts u8info
  go_enter Tryz.func43, Tryz.ntmps43
  go_wp2_with (at_make; refine wpList_make_full _ rfl _ _ 22 rfl w.heap.size 5 i0 (.int .u8 0) 1 Tryz.underlying22 hi hz0 hz1 .i64 .i64 _ _ k rfl rfl rfl rfl (by rw [hz2]; omega) (by unfold maxLen; omega) (Nat.le_refl _) ?_; intro w1 hown hg1)
  have hrow : RowB w1 5 w.heap.size k k (beTo k n 0 ++ List.replicate (k - 0) 0) := by
    rw [made_u8] at hown
    have := RowB.of_own hown
    rw [show beTo k n 0 = [] from rfl, List.nil_append, Nat.sub_zero]
    exact this
  have ht1 : Turned (fun _ => False) w w1 := (Turned.refl _ w).grown hg1 (by simp)
  have hwl : w.heap.size < w1.heap.size := hrow.lt
  clear hown hg1
  go_loopw [11] (fun i wr => ANumRel n k w i wr) (fun i _ => k - (intOf i).toNat)
  case atStart => exact ⟨0, by omega, rfl, hrow, ht1⟩
  case round =>
    obtain ⟨j, hj, rfl, hr, ht⟩ := hrel
    by_cases hlt : j < k
    · obtain ⟨m, hm⟩ : ∃ m : Nat, m = k - 1 - j := ⟨_, rfl⟩
      have hmi : (k : Int) - 1 - (j : Int) = (m : Int) := by omega
      have hm7 : m ≤ 7 := by omega
      have hx := Lib.hid (show beAt k n j = n / 2 ^ (8 * m) % 256 by unfold beAt; rw [hm])
      have hset := Lib.hid (be_set k n j hlt)
      have hc := hr.cell (i := j) (by omega)
      have hf := hr.frozen j
      have hj' : (j : Int) < (k : Int) := by omega
      have h8 : (0 : Int) ≤ 8 * (m : Int) := by omega
      have h8b : 8 * (m : Int) ≤ 56 := by omega
      have hw8 : IntKind.i64.wrap (8 * (m : Int)) = 8 * (m : Int) := IntWalk.i64_in _ (by omega)
      have hr' := Lib.hid hr
      clear hr hm
      go_wp2
      have R := Lib.hid (show ANumRel n k w (.int .i64 ((j + 1 : Nat) : Int)) (wr.setCell ⟨w.heap.size, j, none⟩ (.int .u8 (n / 2 ^ (8 * m) % 256))) from ⟨j + 1, hlt, rfl, by rw [← hset.out, hx.out]; exact hr'.out.set j _, ht.setCell (.inr (Nat.le_refl _)) _⟩)
      go_roundw
      case rel =>
        first
        | exact R.out
        | ((repeat apply Exists.intro); exact ⟨R.out, rfl⟩)
      case measure => simp [intOf]; omega
    · have hjn : j = k := by omega
      subst hjn
      have hr' := Lib.hid hr
      clear hr hj
      go_wp2
      go_ret
      have h2 := hr'.out
      rw [Nat.sub_self, List.replicate_zero, List.append_nil] at h2
      have hl : (be j n).length = j := be_length j n
      exact ⟨some ⟨w.heap.size, 0, none⟩, j, by rw [hl]; rfl, by rw [hl]; exact OwnV.of_row h2, (fun g e => by injection e with e; injection e with e; omega), ht⟩
end Go.Proofs.YtijmfglgeaaoaaaGreatDoor

