/-
  CodeWithin's walk. Conditions: three variables of the library's hold what their initialisers lay.
-/
import Derived.Test.YtmblonmpiomjgaaDoorCodF
import Derived.Lib.Strings
namespace Go.Proofs.YtmblonmpiomjgaaDoor
open Go.RowKit Go.Maps
set_option linter.unusedVariables false

def WthRel (n : Nat) (w : World) (i : Value) (wr : World) : Prop := ∃ k : Nat, 1 ≤ k ∧ k ≤ n + 1 ∧ i = .int .i64 k ∧ Turned (fun _ => False) w wr
theorem extract_take (s : ByteArray) (k : Nat) : (s.extract 0 k).data.toList = s.data.toList.take k := by
  rw [Lib.extract_data]
  simp
set_option maxRecDepth 100000 in
set_option maxHeartbeats 1000000 in
theorem codeWithin_any (s t : ByteArray) (w : World) (hv : VarsOk w) (hs : s.size ≤ maxLen) (ht : t.size ≤ maxLen) :
    Calls Tryd.prog 5 #[.string s, .string t] w (OkNew w) := by
  unfold maxLen at hs ht
  have hra := Lib.hid (fun (w : World) => right_any s w hs)
  have hrb := Lib.hid (fun (w : World) => right_any t w ht)
  cases hca : codeL s.data.toList with
  | false =>
    rw [hca] at hra
    clear hca
    go_enter Tryd.func5, Tryd.ntmps5
    go_wp2_with fail
    refine (awake03_any _ hv).mono ?_
    rintro e w1 ⟨rfl, t1⟩
    go_wp2_with fail
    refine (hra.out _).mono ?_
    rintro e w2 ⟨rfl, t2⟩
    go_wp2_with fail
    go_ret
    exact ⟨rfl, t1.trans (W := fun _ => False) t2 (fun _ e => e) (fun _ e => e.elim)⟩
  | true =>
    rw [hca] at hra
    have hla := codeL_len hca
    rw [ba_size] at hla
    have hca' := Lib.hid hca
    have hn1 : s.size ≤ 12 := hla.2.1
    have hn0 : 0 < s.size := hla.1
    have hpre := Lib.hid (fun (w : World) (k : Nat) (h0 : 1 ≤ k) (hk : k ≤ s.size) => by
      have := right_any (s.extract 0 k) w (by rw [← ba_size, extract_take, List.length_take, ba_size]; omega)
      rw [extract_take, codeL_take hca k h0 (by rw [ba_size]; exact hk)] at this
      exact this)
    clear hca hla
    go_enter Tryd.func5, Tryd.ntmps5
    go_wp2_with fail
    refine (awake03_any _ hv).mono ?_
    rintro e w1 ⟨rfl, t1⟩
    go_wp2_with fail
    refine (hra.out _).mono ?_
    rintro e w2 ⟨rfl, t2⟩
    have T2 := Lib.hid (t1.trans (W := fun _ => False) t2 (fun _ e => e) (fun _ e => e.elim))
    clear t1 t2
    go_wp2_with fail
    go_loopw [5] (fun i wr => WthRel s.size w i wr) (fun i _ => s.size + 1 - (intOf i).toNat)
    case atStart => exact ⟨1, by omega, by omega, rfl, T2.out⟩
    case round =>
      obtain ⟨k, hk1, hk2, rfl, hT⟩ := hrel
      have hT' := Lib.hid hT
      clear hT
      by_cases hlt : k ≤ s.size
      · have hki : (k : Int) ≤ (s.size : Int) := by omega
        go_wp2_with fail
        refine (hpre.out _ k hk1 hlt).mono ?_
        rintro e w3 ⟨rfl, t3⟩
        have hR' := Lib.hid (show WthRel s.size w (.int .i64 ((k + 1 : Nat) : Int)) w3 from ⟨k + 1, by omega, by omega, rfl, hT'.out.trans (W := fun _ => False) t3 (fun _ e => e) (fun _ e => e.elim)⟩)
        clear t3
        go_wp2_with fail
        go_roundw
        case rel =>
          have hz : Value.int .i64 ((k : Int) + 1) = .int .i64 ((k + 1 : Nat) : Int) := by go_num
          first
          | (rw [hz]; exact hR'.out)
          | ((repeat apply Exists.intro); exact ⟨by rw [hz]; exact hR'.out, rfl⟩)
        case measure => simp [intOf]; omega
      · have hge : (s.size : Int) < (k : Int) := by omega
        cases hcb : codeL t.data.toList with
        | false =>
          rw [hcb] at hrb
          clear hcb
          go_wp2_with fail
          refine (hrb.out _).mono ?_
          rintro e w3 ⟨rfl, t3⟩
          go_wp2_with fail
          go_ret
          exact ⟨rfl, hT'.out.trans (W := fun _ => False) t3 (fun _ e => e) (fun _ e => e.elim)⟩
        | true =>
          rw [hcb] at hrb
          have hlb := codeL_len hcb
          rw [ba_size] at hlb
          have hm1 : t.size ≤ 12 := hlb.2.1
          have hab : codeL (s ++ t).data.toList = decide (s.size + t.size ≤ 12) := by
            rw [show (s ++ t).data.toList = s.data.toList ++ t.data.toList by simp, codeL_both hca'.out hcb, ba_size, ba_size]
          have hsz : (s ++ t).size = s.size + t.size := by simp
          have hrab := fun (w : World) => right_any (s ++ t) w (by omega)
          rw [hab] at hrab
          have hrab' := Lib.hid hrab
          clear hcb hlb hab hrab hsz
          go_wp2_with fail
          refine (hrb.out _).mono ?_
          rintro e w3 ⟨rfl, t3⟩
          go_wp2_with fail
          refine (hrab'.out _).mono ?_
          rintro e w4 ⟨rfl, t4⟩
          have T4 := Lib.hid ((hT'.out.trans (W := fun _ => False) t3 (fun _ e => e) (fun _ e => e.elim)).trans (W := fun _ => False) t4 (fun _ e => e) (fun _ e => e.elim))
          clear t3 t4
          by_cases hle : s.size + t.size ≤ 12
          · have hd : decide (s.size + t.size ≤ 12) = true := decide_eq_true hle
            have hi : (s.size : Int) + (t.size : Int) ≤ 12 := by omega
            go_wp2_with fail
            go_ret
            exact ⟨rfl, T4.out⟩
          · have hd : decide (s.size + t.size ≤ 12) = false := decide_eq_false hle
            have hi : decide ((s.size : Int) + (t.size : Int) ≤ 12) = false := decide_eq_false (by omega)
            have hi' := Lib.hid hi
            clear hi
            go_wp2_with fail
            go_ret
            refine ⟨?_, T4.out⟩
            show Ending.returned (.bool !decide ((s.size : Int) + (t.size : Int) ≤ 12)) = _
            rw [hi'.out]
            rfl
end Go.Proofs.YtmblonmpiomjgaaDoor
