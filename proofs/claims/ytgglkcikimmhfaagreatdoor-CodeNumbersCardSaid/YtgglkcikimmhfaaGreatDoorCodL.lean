/-
  The document's Get: the code that bytes begin with. No condition but the bytes' number.
-/
import Derived.Test.YtgglkcikimmhfaaGreatDoorCodD
namespace Go.Proofs.YtgglkcikimmhfaaGreatDoor
open Go.RowKit Go.Maps
set_option linter.unusedVariables false

set_option maxRecDepth 100000 in
set_option maxHeartbeats 1000000 in
theorem rget_any (A : Option Addr) (n c : Nat) (zs : List Int) (w : World) (h : BytR w A n zs) (hb : ∀ z ∈ zs, isByte z) (hnc : n ≤ c) (hc : c ≤ maxLen) :
    Calls Tryz.prog 21 #[.slice A n c] w (GetPost (getL zs) w) := by
  unfold maxLen at hc
  have hl := h.len
  cases zs with
  | nil =>
    obtain rfl : n = 0 := by simpa using hl.symm
    clear h hl
    go_enter Tryz.func21, Tryz.ntmps21
    go_wp2
    go_ret3
    exact ⟨rfl, Turned.refl _ _⟩
  | cons z r =>
    have hz := hb z (by simp)
    unfold isByte at hz
    obtain ⟨k, rfl⟩ : ∃ k : Nat, z = (k : Int) := ⟨z.toNat, by omega⟩
    have hn1 : 1 ≤ n := by rw [← hl]; simp
    have hrl : r.length + 1 = n := by rw [← hl]; simp
    obtain ⟨b, off, rfl, hcell⟩ := h.cell (by omega)
    have q0 := hcell 0 (by omega)
    rw [Nat.add_zero] at q0
    have q0' : w.cell? ⟨b, off, none⟩ = some (.int .u8 (k : Int)) := by rw [q0]; rfl
    have hk : (k : Int) ≤ 255 := by omega
    by_cases hlt : r.length < k
    · have e : getL ((k : Int) :: r) = none := by rw [getL_cons, if_pos hlt]
      have e' := Lib.hid e
      have hi : (n : Int) ≤ (k : Int) := by omega
      have hi0 : (0 : Int) < (k : Int) := by omega
      have hni : ((n : Int) == 0) = false := by rw [beq_eq_false_iff_ne]; omega
      clear e q0 hcell h hl hrl
      go_enter Tryz.func21, Tryz.ntmps21
      go_wp2
      go_ret3
      rw [e'.out]
      exact ⟨rfl, Turned.refl _ _⟩
    · have hkr : k ≤ r.length := by omega
      have hi : 1 + (k : Int) ≤ (n : Int) := by omega
      have hi9 : (k : Int) < (n : Int) := by omega
      have hi2 : 1 + (k : Int) ≤ (c : Int) := by omega
      have hni : ((n : Int) == 0) = false := by rw [beq_eq_false_iff_ne]; omega
      have hlen : (r.take k).length = k := by rw [List.length_take]; omega
      have hg := getL_cons k r
      rw [if_neg hlt] at hg
      have hcv : ∀ cap' : Nat, (convert 22 9 (.slice (some ⟨b, off + 1, none⟩) k cap')).run Tryz.prog w = .ok (.string (strOfNums (r.take k))) w := fun cap' =>
        run_convert_bytes_arg w 22 5 Tryz.underlying22 Tryz.underlying5 b (off + 1) k cap' (r.take k) hlen (fun i hi => by
          rw [take_getD _ _ _ hi, show off + 1 + i = off + (i + 1) by omega, hcell (i + 1) (by omega)]
          simp [List.getD_eq_getElem?_getD]) 9 Tryz.underlying9
      by_cases hk0 : k = 0
      · subst hk0
        have hg0 : getL (((0 : Nat) : Int) :: r) = some [] := by rw [hg]; rfl
        have hg' := Lib.hid hg0
        have hcv0 : ∀ (o2 cap' : Nat), (convert 22 9 (.slice (some ⟨b, o2, none⟩) 0 cap')).run Tryz.prog w = .ok (.string ⟨#[]⟩) w := fun o2 cap' =>
          run_convert_bytes_arg w 22 5 Tryz.underlying22 Tryz.underlying5 b o2 0 cap' [] rfl (fun i hi => absurd hi (by omega)) 9 Tryz.underlying9
        have q1 : w.cell? ⟨b, off, none⟩ = some (.int .u8 0) := q0'
        have hi3 : (1 : Int) ≤ (n : Int) := by omega
        have hi8 : (0 : Int) < (n : Int) := by omega
        have hi4 : (1 : Int) ≤ (c : Int) := by omega
        clear hg hg0 hcv q0' q0 hcell h hl hrl hlen hb hz hi hi2 hk hkr hlt
        by_cases hc1 : c = 1
        · subst hc1
          have hn1' : n = 1 := by omega
          subst hn1'
          go_enter Tryz.func21, Tryz.ntmps21
          go_wp2
          go_ret3
          rw [hg'.out]
          exact ⟨rfl, Turned.refl _ _⟩
        · have hc2 : ((1 : Int) == (c : Int)) = false := by rw [beq_eq_false_iff_ne]; omega
          have hc3 : ((c : Int) == (1 : Int)) = false := by rw [beq_eq_false_iff_ne]; omega
          have hc4 : ¬ (1 = c) := by omega
          have hc5 : 1 < c := by omega
          go_enter Tryz.func21, Tryz.ntmps21
          go_wp2
          go_ret3
          rw [hg'.out]
          exact ⟨rfl, Turned.refl _ _⟩
      · have hsz : (strOfNums (r.take k)).size = k := by rw [strOfNums_size, hlen]
        obtain ⟨hn1, hn2⟩ := ba_ne (s := strOfNums (r.take k)) (by omega)
        have hrt := fun w => rright_any (strOfNums (r.take k)) w (by omega)
        rw [toB_data] at hrt
        have hput : putOk (toB (r.take k)) = codeL (toB (r.take k)) := by
          unfold putOk
          rw [decide_eq_false (by rw [toB_length, hlen]; exact hk0), Bool.false_or]
        rw [hput] at hg
        have hstr := Lib.hid (strOfNums_eq (r.take k))
        have hll := Lib.hid (show (toB (r.take k)).length = k by rw [toB_length, hlen])
        generalize strOfNums (r.take k) = str at hcv hsz hn1 hn2 hrt hstr
        generalize toB (r.take k) = l at hg hrt hstr hll
        have hsz' : (str.size : Int) = (k : Int) := by rw [hsz]
        have hk1 : (0 : Int) < (k : Int) := by omega
        cases hco : codeL l with
        | false =>
          rw [hco] at hg hrt
          have hg' := Lib.hid hg
          have hrt' := Lib.hid hrt
          clear hg hrt hco q0 hcell h hl hrl hlen hput hb hz
          go_enter Tryz.func21, Tryz.ntmps21
          go_wp2_with fail
          refine (hrt'.out _).mono ?_
          rintro e w1 ⟨rfl, rfl⟩
          go_wp2_with fail
          go_ret3
          rw [hg'.out]
          exact ⟨rfl, Turned.refl _ _⟩
        | true =>
          rw [hco] at hg hrt
          have hg' := Lib.hid hg
          have hrt' := Lib.hid hrt
          clear hg hrt hco q0 hcell h hl hrl hlen hput hb hz
          go_enter Tryz.func21, Tryz.ntmps21
          go_wp2_with fail
          refine (hrt'.out _).mono ?_
          rintro e w1 ⟨rfl, rfl⟩
          go_wp2_with fail
          go_ret3
          rw [hg'.out]
          refine ⟨?_, Turned.refl _ _⟩
          simp only [if_true]
          rw [hll.out, hstr.out]
          rfl
end Go.Proofs.YtgglkcikimmhfaaGreatDoor
