/-
  ytglojnmcbochaaagreatdoor: laws and walks on the road to LinesNumbers, joined: CodF CodH. Conditions stand at each theorem.
-/
import Derived.Test.YtglojnmcbochaaaGreatDoorULnsP
import Derived.Lib.IndexBytes
namespace Go.Proofs.YtglojnmcbochaaaGreatDoor
open Go.RowKit Go.Maps
set_option linter.unusedVariables false

end Go.Proofs.YtglojnmcbochaaaGreatDoor

namespace Go.Proofs.YtglojnmcbochaaaGreatDoor
open Go.RowKit Go.Maps
set_option linter.unusedVariables false

def RNumPost (o : Option Int) (w : World) (e : Ending) (w' : World) : Prop := e = .returned (.tuple #[.int .i64 (o.getD 0), .bool o.isSome]) ∧ w = w'
theorem refMag_no {neg : Bool} {d : List UInt8} (h : d.length = 0 ∨ 19 < d.length ∨ (d.head? = some 48 ∧ (1 < d.length ∨ neg = true))) : refMag neg d = none := by unfold refMag; rw [if_pos h]
theorem refMag_bad {neg : Bool} {d : List UInt8} {j : Nat} (hj : j < d.length) (h : ¬ digB (d[j])) : refMag neg d = none := by
  unfold refMag
  split
  · rfl
  · rw [if_neg]
    intro e
    exact h (e _ (List.getElem_mem hj))
theorem refMag_go {neg : Bool} {d : List UInt8} (h : ¬ (d.length = 0 ∨ 19 < d.length ∨ (d.head? = some 48 ∧ (1 < d.length ∨ neg = true)))) (hd : ∀ c ∈ d, digB c) :
    refMag neg d = if neg = true ∧ valF 0 d ≤ 9223372036854775808 then some (-(valF 0 d : Int)) else if neg = false ∧ valF 0 d < 9223372036854775808 then some (valF 0 d : Int) else none := by
  unfold refMag
  rw [if_neg h, if_pos hd]
theorem valF_snoc (d : List UInt8) (j : Nat) (hj : j < d.length) : valF 0 (d.take (j + 1)) = valF 0 (d.take j) * 10 + ((d[j]).toNat - 48) := by
  rw [List.take_succ_eq_append_getElem hj, valF_append, valF_one]
theorem dig_snoc (d : List UInt8) (j : Nat) (hj : j < d.length) (h : ∀ c ∈ d.take j, digB c) (h2 : digB (d[j])) : ∀ c ∈ d.take (j + 1), digB c := by
  rw [List.take_succ_eq_append_getElem hj]
  intro c hc
  rcases List.mem_append.1 hc with hc | hc
  · exact h c hc
  · rw [List.mem_singleton] at hc
    rw [hc]; exact h2
theorem valF_small (d : List UInt8) (j : Nat) (hj : j < 19) (h : ∀ c ∈ d.take j, digB c) : valF 0 (d.take j) < 1000000000000000000 := by
  have h1 := valF_lt (d.take j) 0 h
  rw [Nat.zero_add, Nat.one_mul, List.length_take] at h1
  have h2 : (10 : Nat) ^ (min j d.length) ≤ 10 ^ 18 := Nat.pow_le_pow_right (by omega) (by omega)
  omega
theorem wrap_negv (v : Nat) (h : v ≤ 9223372036854775808) : wrap64 (IntKind.u64.wrap (-(v : Int))) = -(v : Int) := by
  rw [IntKind.wrap_u64]
  unfold wrap64
  omega
theorem ba_head (s : ByteArray) (h : 0 < s.size) : s.data.toList.head? = some (s[0]'h) := by
  have h1 := ba_get s 0 h
  have h2 : 0 < s.data.toList.length := by rw [ba_size]; exact h
  rw [← h1, List.head?_eq_getElem?, List.getElem?_eq_getElem h2]
def RnRel (d : ByteArray) (n i : Value) : Prop := ∃ j : Nat, j ≤ d.size ∧ i = .int .i64 j ∧ n = .int .u64 (valF 0 (d.data.toList.take j) : Int) ∧ ∀ c ∈ d.data.toList.take j, digB c
theorem rn_next {d : ByteArray} {j : Nat} (hj : j < d.size) (h : ∀ c ∈ d.data.toList.take j, digB c) (h2 : digB (d[j]'hj)) : RnRel d (.int .u64 (10 * (valF 0 (d.data.toList.take j) : Int) + (((d[j]'hj).toNat : Int) - 48))) (.int .i64 ((j + 1 : Nat) : Int)) := by
  have hl : j < d.data.toList.length := by rw [ba_size]; exact hj
  refine ⟨j + 1, hj, rfl, ?_, dig_snoc _ j hl h (by rw [ba_get d j hj]; exact h2)⟩
  rw [valF_snoc _ _ hl, ba_get d j hj]
  unfold digB at h2
  congr 1
  omega

set_option maxRecDepth 100000 in
set_option maxHeartbeats 1000000 in
theorem rnumber_pos (s : ByteArray) (w : World) (hs : s.size ≤ 9223372036854775807) (h0 : 0 < s.size) (hc : ¬ (s[0]'h0).toNat = 45) :
    Calls Tryz.prog 67 #[.string s] w (RNumPost (refNum s.data.toList) w) := by
  have hsi : (0 : Int) < (s.size : Int) := by omega
  have hci : (((s[0]'h0).toNat : Int) == 45) = false := by rw [beq_eq_false_iff_ne]; omega
  have hsn : refNum s.data.toList = refMag false s.data.toList := by
    unfold refNum
    rw [if_neg (by rw [ba_head s h0]; intro e; injection e with e; rw [e] at hc; exact hc rfl)]
  have hsn' := hZ hsn
  clear hsn
  by_cases he : s.size = 0
  · have hno := hZ (refMag_no (neg := false) (d := s.data.toList) (.inl (by rw [ba_size]; exact he)))
    have hei : ((s.size : Int) == 0) = true := by rw [beq_iff_eq]; omega
    have hei2 : (s.size : Int) = 0 := by omega
    go_enter Tryz.func67, Tryz.ntmps67
    go_wp2
    go_ret2
    rw [hsn'.out, hno.out]
    exact ⟨rfl, rfl⟩
  · have hei : ((s.size : Int) == 0) = false := by rw [beq_eq_false_iff_ne]; omega
    have hd0 : 0 < s.size := by omega
    by_cases hg : 19 < s.size
    · have hno := hZ (refMag_no (neg := false) (d := s.data.toList) (.inr (.inl (by rw [ba_size]; exact hg))))
      have hgi : (19 : Int) < (s.size : Int) := by omega
      go_enter Tryz.func67, Tryz.ntmps67
      go_wp2
      go_ret2
      rw [hsn'.out, hno.out]
      exact ⟨rfl, rfl⟩
    · have hgi : (s.size : Int) ≤ 19 := by omega
      by_cases hz : (s[0]'hd0).toNat = 48 ∧ (1 < s.size ∨ false = true)
      · have hno := hZ (refMag_no (neg := false) (d := s.data.toList) (.inr (.inr ⟨by rw [ba_head s hd0]; congr 1; apply UInt8.toNat_inj.1; rw [hz.1]; rfl, by rw [ba_size]; exact hz.2⟩)))
        have hzi : (((s[0]'hd0).toNat : Int) == 48) = true := by rw [beq_iff_eq]; omega
        have h1i : (1 : Int) < (s.size : Int) := by
          rcases hz.2 with h | h
          · omega
          · cases h
        clear hz
        go_enter Tryz.func67, Tryz.ntmps67
        go_wp2
        all_goals (go_ret2; rw [hsn'.out, hno.out]; exact ⟨rfl, rfl⟩)
      · have hgo := hZ (fun hd => refMag_go (neg := false) (d := s.data.toList) (by
          rintro (e | e | ⟨e, e2⟩)
          · rw [ba_size] at e; omega
          · rw [ba_size] at e; omega
          · rw [ba_head s hd0] at e
            rw [ba_size] at e2
            injection e with e
            exact hz ⟨by rw [e]; rfl, e2⟩) hd)
        have hz2 : ((s[0]'hd0).toNat = 48 → (s.size : Int) ≤ 1) := fun h => by
          by_cases h3 : 1 < s.size
          · exact absurd ⟨h, .inl h3⟩ hz
          · omega
        have hz2' := hZ hz2
        clear hz hz2
        by_cases h48 : (s[0]'hd0).toNat = 48
        · have h48i : (((s[0]'hd0).toNat : Int) == 48) = true := by rw [beq_iff_eq]; omega
          have h1i := hz2'.out h48
          go_enter Tryz.func67, Tryz.ntmps67
          go_wp2
          go_loop [6, 7] (fun n i => RnRel s n i) (fun _ i => s.size - (intOf i).toNat)
          case atStart => exact ⟨0, by omega, rfl, by rw [List.take_zero, valF_nil]; rfl, by simp⟩
          case round =>
            obtain ⟨j, hj, rfl, rfl, hdg⟩ := hrel
            have hdg' := hZ hdg
            clear hdg
            by_cases hlt : j < s.size
            · have hji : (j : Int) < (s.size : Int) := by omega
              by_cases hd : digB (s[j]'hlt)
              · have hR := hZ (rn_next hlt hdg'.out hd)
                have hv := valF_small s.data.toList j (by omega) hdg'.out
                unfold digB at hd
                have hd1 : (48 : Int) ≤ ((s[j]'hlt).toNat : Int) := by omega
                have hd2 : ((s[j]'hlt).toNat : Int) ≤ 57 := by omega
                generalize valF 0 (s.data.toList.take j) = v at hR hv
                have hw1 : IntKind.u64.wrap (10 * (v : Int)) = 10 * (v : Int) := IntWalk.u64_in _ (by omega)
                have hw2 : IntKind.u64.wrap (10 * (v : Int) + (((s[j]'hlt).toNat : Int) - 48)) = 10 * (v : Int) + (((s[j]'hlt).toNat : Int) - 48) := IntWalk.u64_in _ (by omega)
                clear hd hv
                go_wp2
                have hz : Value.int .i64 ((j : Int) + 1) = .int .i64 ((j + 1 : Nat) : Int) := by go_num
                first
                | exact ⟨by rw [hz]; exact hR.out, by simp [intOf]; omega⟩
                | (go_round
                   case rel => rw [hz]; exact hR.out
                   case measure => simp [intOf]; omega)
              · have hno := hZ (refMag_bad (neg := false) (d := s.data.toList) (by rw [ba_size]; exact hlt) (by rw [ba_get s j hlt]; exact hd))
                unfold digB at hd
                go_wp2
                all_goals first
                  | (go_ret2; rw [hsn'.out, hno.out]; exact ⟨rfl, rfl⟩)
                  | (exfalso; omega)
            · have hjn : s.size = j := by omega
              have hge : (s.size : Int) ≤ (j : Int) := by omega
              have hall : s.data.toList.take j = s.data.toList := List.take_of_length_le (by rw [ba_size]; omega)
              have hgo2 := hdg'.out
              rw [hall] at hgo2 ⊢
              have hfin := hZ (hgo.out hgo2)
              clear hall hgo2 hjn
              generalize valF 0 s.data.toList = v at hfin ⊢
              by_cases hle : v < 9223372036854775808
              · have hle' : decide ((v : Int) < 9223372036854775808) = true := by simp; omega
                go_wp2
                go_ret2
                rw [hsn'.out, hfin.out, if_neg (by simp), if_pos (by first | exact ⟨rfl, hle⟩ | exact ⟨trivial, hle⟩)]
                exact ⟨rfl, rfl⟩
              · have hle' : decide ((v : Int) < 9223372036854775808) = false := by simp; omega
                go_wp2
                go_ret2
                rw [hsn'.out, hfin.out, if_neg (by simp), if_neg (by exact fun e => hle e.2)]
                exact ⟨rfl, rfl⟩
        · have h48i : (((s[0]'hd0).toNat : Int) == 48) = false := by rw [beq_eq_false_iff_ne]; omega
          go_enter Tryz.func67, Tryz.ntmps67
          go_wp2
          go_loop [6, 7] (fun n i => RnRel s n i) (fun _ i => s.size - (intOf i).toNat)
          case atStart => exact ⟨0, by omega, rfl, by rw [List.take_zero, valF_nil]; rfl, by simp⟩
          case round =>
            obtain ⟨j, hj, rfl, rfl, hdg⟩ := hrel
            have hdg' := hZ hdg
            clear hdg
            by_cases hlt : j < s.size
            · have hji : (j : Int) < (s.size : Int) := by omega
              by_cases hd : digB (s[j]'hlt)
              · have hR := hZ (rn_next hlt hdg'.out hd)
                have hv := valF_small s.data.toList j (by omega) hdg'.out
                unfold digB at hd
                have hd1 : (48 : Int) ≤ ((s[j]'hlt).toNat : Int) := by omega
                have hd2 : ((s[j]'hlt).toNat : Int) ≤ 57 := by omega
                generalize valF 0 (s.data.toList.take j) = v at hR hv
                have hw1 : IntKind.u64.wrap (10 * (v : Int)) = 10 * (v : Int) := IntWalk.u64_in _ (by omega)
                have hw2 : IntKind.u64.wrap (10 * (v : Int) + (((s[j]'hlt).toNat : Int) - 48)) = 10 * (v : Int) + (((s[j]'hlt).toNat : Int) - 48) := IntWalk.u64_in _ (by omega)
                clear hd hv
                go_wp2
                have hz : Value.int .i64 ((j : Int) + 1) = .int .i64 ((j + 1 : Nat) : Int) := by go_num
                first
                | exact ⟨by rw [hz]; exact hR.out, by simp [intOf]; omega⟩
                | (go_round
                   case rel => rw [hz]; exact hR.out
                   case measure => simp [intOf]; omega)
              · have hno := hZ (refMag_bad (neg := false) (d := s.data.toList) (by rw [ba_size]; exact hlt) (by rw [ba_get s j hlt]; exact hd))
                unfold digB at hd
                go_wp2
                all_goals first
                  | (go_ret2; rw [hsn'.out, hno.out]; exact ⟨rfl, rfl⟩)
                  | (exfalso; omega)
            · have hjn : s.size = j := by omega
              have hge : (s.size : Int) ≤ (j : Int) := by omega
              have hall : s.data.toList.take j = s.data.toList := List.take_of_length_le (by rw [ba_size]; omega)
              have hgo2 := hdg'.out
              rw [hall] at hgo2 ⊢
              have hfin := hZ (hgo.out hgo2)
              clear hall hgo2 hjn
              generalize valF 0 s.data.toList = v at hfin ⊢
              by_cases hle : v < 9223372036854775808
              · have hle' : decide ((v : Int) < 9223372036854775808) = true := by simp; omega
                go_wp2
                go_ret2
                rw [hsn'.out, hfin.out, if_neg (by simp), if_pos (by first | exact ⟨rfl, hle⟩ | exact ⟨trivial, hle⟩)]
                exact ⟨rfl, rfl⟩
              · have hle' : decide ((v : Int) < 9223372036854775808) = false := by simp; omega
                go_wp2
                go_ret2
                rw [hsn'.out, hfin.out, if_neg (by simp), if_neg (by exact fun e => hle e.2)]
                exact ⟨rfl, rfl⟩

set_option maxRecDepth 100000 in
set_option maxHeartbeats 1000000 in
theorem rnumber_neg (s : ByteArray) (w : World) (hs : s.size ≤ 9223372036854775807) (h0 : 0 < s.size) (hc : ((s[0]'h0).toNat = 45)) :
    Calls Tryz.prog 67 #[.string s] w (RNumPost (refNum s.data.toList) w) := by
  have hsi : (0 : Int) < (s.size : Int) := by omega
  have hci : (((s[0]'h0).toNat : Int) == 45) = true := by rw [beq_iff_eq]; omega
  have hsn : refNum s.data.toList = refMag true s.data.toList.tail := by
    unfold refNum
    rw [if_pos (by rw [ba_head s h0]; congr 1; apply UInt8.toNat_inj.1; rw [hc]; rfl)]
  obtain ⟨dd, hdd⟩ : ∃ dd, s.extract 1 s.size = dd := ⟨_, rfl⟩
  have hdt : dd.data.toList = s.data.toList.tail := by
    rw [← hdd, Lib.extract_to_end]
    simp
  have hds : dd.size = s.size - 1 := by rw [← ba_size dd, hdt, List.length_tail, ba_size]
  have hdsi : (dd.size : Int) = (s.size : Int) - 1 := by omega
  rw [← hdt] at hsn
  have hs1 : (1 : Int) ≤ (s.size : Int) := by omega
  have hsn' := hZ hsn
  clear hsn
  have hds' := hZ hds
  clear hdt hds hdsi
  by_cases he : dd.size = 0
  · have hno := hZ (refMag_no (neg := true) (d := dd.data.toList) (.inl (by rw [ba_size]; exact he)))
    have hei : ((dd.size : Int) == 0) = true := by rw [beq_iff_eq]; omega
    have hei2 : (dd.size : Int) = 0 := by omega
    go_enter Tryz.func67, Tryz.ntmps67
    go_wp2
    go_ret2
    rw [hsn'.out, hno.out]
    exact ⟨rfl, rfl⟩
  · have hei : ((dd.size : Int) == 0) = false := by rw [beq_eq_false_iff_ne]; omega
    have hd0 : 0 < dd.size := by omega
    by_cases hg : 19 < dd.size
    · have hno := hZ (refMag_no (neg := true) (d := dd.data.toList) (.inr (.inl (by rw [ba_size]; exact hg))))
      have hgi : (19 : Int) < (dd.size : Int) := by omega
      go_enter Tryz.func67, Tryz.ntmps67
      go_wp2
      go_ret2
      rw [hsn'.out, hno.out]
      exact ⟨rfl, rfl⟩
    · have hgi : (dd.size : Int) ≤ 19 := by omega
      by_cases hz : (dd[0]'hd0).toNat = 48 ∧ (1 < dd.size ∨ true = true)
      · have hno := hZ (refMag_no (neg := true) (d := dd.data.toList) (.inr (.inr ⟨by rw [ba_head dd hd0]; congr 1; apply UInt8.toNat_inj.1; rw [hz.1]; rfl, by rw [ba_size]; exact hz.2⟩)))
        have hzi : (((dd[0]'hd0).toNat : Int) == 48) = true := by rw [beq_iff_eq]; omega
        clear hz
        go_enter Tryz.func67, Tryz.ntmps67
        go_wp2
        all_goals (go_ret2; rw [hsn'.out, hno.out]; exact ⟨rfl, rfl⟩)
      · have hgo := hZ (fun hd => refMag_go (neg := true) (d := dd.data.toList) (by
          rintro (e | e | ⟨e, e2⟩)
          · rw [ba_size] at e; omega
          · rw [ba_size] at e; omega
          · rw [ba_head dd hd0] at e
            rw [ba_size] at e2
            injection e with e
            exact hz ⟨by rw [e]; rfl, e2⟩) hd)
        have hz2 : ((dd[0]'hd0).toNat = 48 → False) := fun h => by
          exact hz ⟨h, .inr rfl⟩

        have hz2' := hZ hz2
        clear hz hz2
        by_cases h48 : (dd[0]'hd0).toNat = 48
        · exact (hz2'.out h48).elim
        · have h48i : (((dd[0]'hd0).toNat : Int) == 48) = false := by rw [beq_eq_false_iff_ne]; omega
          go_enter Tryz.func67, Tryz.ntmps67
          go_wp2
          go_loop [6, 7] (fun n i => RnRel dd n i) (fun _ i => dd.size - (intOf i).toNat)
          case atStart => exact ⟨0, by omega, rfl, by rw [List.take_zero, valF_nil]; rfl, by simp⟩
          case round =>
            obtain ⟨j, hj, rfl, rfl, hdg⟩ := hrel
            have hdg' := hZ hdg
            clear hdg
            by_cases hlt : j < dd.size
            · have hji : (j : Int) < (dd.size : Int) := by omega
              by_cases hd : digB (dd[j]'hlt)
              · have hR := hZ (rn_next hlt hdg'.out hd)
                have hv := valF_small dd.data.toList j (by omega) hdg'.out
                unfold digB at hd
                have hd1 : (48 : Int) ≤ ((dd[j]'hlt).toNat : Int) := by omega
                have hd2 : ((dd[j]'hlt).toNat : Int) ≤ 57 := by omega
                generalize valF 0 (dd.data.toList.take j) = v at hR hv
                have hw1 : IntKind.u64.wrap (10 * (v : Int)) = 10 * (v : Int) := IntWalk.u64_in _ (by omega)
                have hw2 : IntKind.u64.wrap (10 * (v : Int) + (((dd[j]'hlt).toNat : Int) - 48)) = 10 * (v : Int) + (((dd[j]'hlt).toNat : Int) - 48) := IntWalk.u64_in _ (by omega)
                clear hd hv
                go_wp2
                have hz : Value.int .i64 ((j : Int) + 1) = .int .i64 ((j + 1 : Nat) : Int) := by go_num
                first
                | exact ⟨by rw [hz]; exact hR.out, by simp [intOf]; omega⟩
                | (go_round
                   case rel => rw [hz]; exact hR.out
                   case measure => simp [intOf]; omega)
              · have hno := hZ (refMag_bad (neg := true) (d := dd.data.toList) (by rw [ba_size]; exact hlt) (by rw [ba_get dd j hlt]; exact hd))
                unfold digB at hd
                go_wp2
                all_goals first
                  | (go_ret2; rw [hsn'.out, hno.out]; exact ⟨rfl, rfl⟩)
                  | (exfalso; omega)
            · have hjn : dd.size = j := by omega
              have hge : (dd.size : Int) ≤ (j : Int) := by omega
              have hall : dd.data.toList.take j = dd.data.toList := List.take_of_length_le (by rw [ba_size]; omega)
              have hgo2 := hdg'.out
              rw [hall] at hgo2 ⊢
              have hfin := hZ (hgo.out hgo2)
              clear hall hgo2 hjn
              generalize valF 0 dd.data.toList = v at hfin ⊢
              by_cases hle : v ≤ 9223372036854775808
              · have hle' : decide ((v : Int) ≤ 9223372036854775808) = true := by simp; omega
                go_wp2
                go_ret2
                rw [hsn'.out, hfin.out, if_pos (by first | exact ⟨rfl, hle⟩ | exact ⟨trivial, hle⟩)]
                refine ⟨?_, rfl⟩
                show Ending.returned (.tuple #[.int .i64 (wrap64 (IntKind.u64.wrap (-(v : Int)))), .bool true]) = _
                rw [wrap_negv v hle]
                rfl
              · have hle' : decide ((v : Int) ≤ 9223372036854775808) = false := by simp; omega
                go_wp2
                go_ret2
                rw [hsn'.out, hfin.out, if_neg (by exact fun e => hle e.2), if_neg (by simp)]
                exact ⟨rfl, rfl⟩
end Go.Proofs.YtglojnmcbochaaaGreatDoor

