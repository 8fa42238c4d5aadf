/-
  ytbecdijccifllaagreatdoor: laws and walks on the road to AskPuts, joined: CodB KitB. Conditions stand at each theorem.
-/
import Derived.Test.YtbecdijccifllaaGreatDoorPCodA
import Derived.Laws.BytesString
import Derived.Test.YtbecdijccifllaaGreatDoorPAwk
import Derived.IntWalk
namespace Go.Proofs.YtbecdijccifllaaGreatDoor
open Go.RowKit Go.Maps
set_option linter.unusedVariables false

theorem not_ok_at {s : ByteArray} {pos : Nat} (hp : pos < s.size) (h : okAt pos (s[pos]'hp).toNat = true) (ho : okFrom 0 (s.data.toList.take pos) = true) : okFrom 0 (s.data.toList.take (pos + 1)) = true := by
  rw [okFrom_snoc _ _ (by rw [ba_size]; exact hp), ho, ba_get s pos hp, h]
  rfl
set_option maxRecDepth 100000 in
set_option maxHeartbeats 1000000 in
theorem rright_any (s : ByteArray) (w : World) (hs : s.size ≤ 9223372036854775807) :
    Calls Tryz.prog 50 #[.string s] w (RetSame (.bool (codeL s.data.toList)) w) := by
  by_cases h1 : s.size < 1
  · have e : codeL s.data.toList = false := by
      unfold codeL
      rw [ba_size]
      have : decide (0 < s.size) = false := decide_eq_false (by omega)
      rw [this]
      rfl
    have h1i : (s.size : Int) < 1 := by omega
    have e' := Lib.hid e
    clear e
    go_enter Tryz.func50, Tryz.ntmps50
    go_wp2
    go_ret
    rw [e'.out]
    exact ⟨rfl, rfl⟩
  · by_cases h2 : 12 < s.size
    · have e : codeL s.data.toList = false := by
        unfold codeL
        rw [ba_size]
        have : decide (s.size ≤ 12) = false := decide_eq_false (by omega)
        rw [this]
        simp
      have h1i : (1 : Int) ≤ (s.size : Int) := by omega
      have h2i : (12 : Int) < (s.size : Int) := by omega
      have e' := Lib.hid e
      clear e
      go_enter Tryz.func50, Tryz.ntmps50
      go_wp2
      go_ret
      rw [e'.out]
      exact ⟨rfl, rfl⟩
    · have h1i : (1 : Int) ≤ (s.size : Int) := by omega
      have h2i : (s.size : Int) ≤ 12 := by omega
      go_enter Tryz.func50, Tryz.ntmps50
      go_wp2
      go_loop [3] (fun i => ∃ j : Nat, j ≤ s.size ∧ i = .int .i64 j ∧ okFrom 0 (s.data.toList.take j) = true) (fun i => s.size - (intOf i).toNat)
      case atStart => exact ⟨0, by omega, rfl, rfl⟩
      case round =>
        obtain ⟨j, hj, rfl, ho⟩ := hrel
        have ho' := Lib.hid ho
        clear ho
        by_cases hlt : j < s.size
        · have hji : (j : Int) < (s.size : Int) := by omega
          by_cases hok : okAt j (s[j]'hlt).toNat = true
          · have hR := Lib.hid (not_ok_at hlt hok ho'.out)
            rw [okAt_iff] at hok
            go_wp2
            all_goals first
              | (go_round
                 case rel => exact ⟨j + 1, by omega, by go_num, hR.out⟩
                 case measure => simp [intOf]; omega)
              | (exfalso; simp only [beq_iff_eq, beq_eq_false_iff_ne, ne_eq, Bool.not_eq_eq_eq_not, Bool.not_true] at *; omega)
              | (subst_vars; exfalso; simp only [Bool.not_eq_false', Bool.not_eq_true', decide_eq_true_eq, decide_eq_false_iff_not, beq_iff_eq, beq_eq_false_iff_ne, ne_eq] at *; omega)
          · have hno := Lib.hid (not_code hlt hok)
            rw [okAt_iff] at hok
            go_wp2
            all_goals first
              | (go_ret; rw [hno.out]; exact ⟨rfl, rfl⟩)
              | (exfalso; simp only [decide_eq_true_eq, beq_iff_eq, beq_eq_false_iff_ne, ne_eq, Bool.not_eq_eq_eq_not, Bool.not_false] at *; omega)
              | (subst_vars; exfalso; simp only [] at *; omega)
        · have hjn : s.size = j := by omega
          have hge : (s.size : Int) ≤ (j : Int) := by omega
          have e : codeL s.data.toList = true := by
            have := ho'.out
            rw [← hjn, List.take_of_length_le (by rw [ba_size]; exact Nat.le_refl _)] at this
            exact codeL_mk (by rw [ba_size]; omega) (by rw [ba_size]; omega) this
          have e' := Lib.hid e
          clear e hjn
          go_wp2
          go_ret
          rw [e'.out]
          exact ⟨rfl, rfl⟩
end Go.Proofs.YtbecdijccifllaaGreatDoor

namespace Go.Proofs.YtbecdijccifllaaGreatDoor
open Go.RowKit Go.Maps

theorem mark_any (k i : Int) (w : World) (h0 : 0 ≤ k) (h1 : k ≤ 1000) (h2 : 0 ≤ i) (h3 : i ≤ 10000000) :
    Calls Tryz.prog 95 #[.int .i64 k, .int .i64 i] w (RetSame (.int .i64 (1000003 * (k + 7) + i)) w) := by
  go_enter Tryz.func95, Tryz.ntmps95
  go_wp2
  go_ret
  exact ⟨rfl, rfl⟩
def mkB (k i : Int) : Int := IntKind.u64.wrap ((1000003 * (k + 7) + i) * 11400714819323198485) / 72057594037927936 % 256
theorem markByte_any (k i : Int) (w : World) (h0 : 0 ≤ k) (h1 : k ≤ 1000) (h2 : 0 ≤ i) (h3 : i ≤ 10000000) :
    Calls Tryz.prog 55 #[.int .i64 k, .int .i64 i] w (RetSame (.int .u8 (mkB k i)) w) := by
  go_enter Tryz.func55, Tryz.ntmps55
  go_wp2_with fail
  refine (mark_any k i _ h0 h1 h2 h3).mono ?_
  rintro e w1 ⟨rfl, rfl⟩
  go_wp2_with fail
  go_ret
  exact ⟨rfl, rfl⟩

/-- The first n marks of list k. -/
def marksB (k : Int) (n : Nat) : List Int := (List.range n).map fun (i : Nat) => mkB k i
theorem marksB_length (k : Int) (n : Nat) : (marksB k n).length = n := by simp [marksB]
theorem marksB_succ (k : Int) (n : Nat) : marksB k (n + 1) = marksB k n ++ [mkB k n] := by simp [marksB, List.range_succ]
theorem marksB_getD (k : Int) (n i : Nat) (h : i < n) : (marksB k n).getD i 0 = mkB k i := by simp [marksB, List.getD_eq_getElem?_getD, h]

theorem getD_app_l {α : Type} (a b : List α) (i : Nat) (d : α) (h : i < a.length) : (a ++ b).getD i d = a.getD i d := by
  simp [List.getD_eq_getElem?_getD, List.getElem?_append_left h]
theorem getD_app_r {α : Type} (a b : List α) (i : Nat) (d : α) (h : a.length ≤ i) : (a ++ b).getD i d = b.getD (i - a.length) d := by
  simp [List.getD_eq_getElem?_getD, List.getElem?_append_right h]

/-- A slice of bytes that may be nil, then without room. -/
structure BytS (w : World) (A : Option Addr) (n c : Nat) (zs : List Int) : Prop extends BytR w A n zs where
  nil_ : A = none → n = 0 ∧ c = 0
theorem BytS.news {w : World} {A : Option Addr} {n c : Nat} {zs : List Int} (h : BytS w A n c zs) : ∀ ad, A = some ad → ∀ j u, (u8s zs)[j]? = some u → w.cell? (ad.add j) = some u := by
  intro ad had j u hu
  have hj : j < n := by
    have := (List.getElem?_eq_some_iff.1 hu).1
    rw [u8s_length, h.len] at this
    exact this
  obtain ⟨b, off, rfl, hc⟩ := h.cell (by omega)
  injection had with had
  subst had
  have hl := h.len
  rw [Addr.add_mid, hc j hj, ← hu]
  simp only [u8s, List.getElem?_map, List.getD_eq_getElem?_getD]
  rw [List.getElem?_eq_getElem (by omega)]
  rfl
theorem BytR.turned {w w' : World} {W : Nat → Prop} {A : Option Addr} {n : Nat} {zs : List Int} (h : BytR w A n zs) (ht : Turned W w w') (hW : ∀ b o, A = some ⟨b, o, none⟩ → ¬ W b) : BytR w' A n zs :=
  ⟨h.len, h.max, fun hn => by
    obtain ⟨b, off, e, hc⟩ := h.cell hn
    exact ⟨b, off, e, fun j hj => cell_turned ht (hc j hj) (hW b off e)⟩⟩
theorem BytS.turned {w w' : World} {W : Nat → Prop} {A : Option Addr} {n c : Nat} {zs : List Int} (h : BytS w A n c zs) (ht : Turned W w w') (hW : ∀ b o, A = some ⟨b, o, none⟩ → ¬ W b) : BytS w' A n c zs :=
  ⟨h.toBytR.turned ht hW, h.nil_⟩

end Go.Proofs.YtbecdijccifllaaGreatDoor

