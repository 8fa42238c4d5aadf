/-
  CodeBytes' walk. Conditions: three variables of the library's hold what their initialisers lay.
-/
import Derived.Test.YtgglkcikimmhfaaGreatDoorCodF
import Derived.Test.YtgglkcikimmhfaaGreatDoorCodL
import Derived.Test.YtgglkcikimmhfaaGreatDoorApt
import Derived.Test.YtgglkcikimmhfaaGreatDoorOpB
namespace Go.Proofs.YtgglkcikimmhfaaGreatDoor
open Go.RowKit Go.Maps
set_option linter.unusedVariables false

def two {α : Type} (x y : α) (k : Nat) : α := if k = 0 then x else y
theorem two_0 {α : Type} (x y : α) : two x y 0 = x := rfl
theorem two_1 {α : Type} (x y : α) : two x y 1 = y := rfl
/-- Two new lists of bytes lie apart. -/
theorem apart_two {w w0 : World} {A1 A2 : Option Addr} {n1 n2 c1 c2 g cap : Nat} {z1 z2 : List Int} {T : TypeId} {fr : Nat × Nat} (hL : w.heap[g]? = some (.cells #[.slice A1 n1 c1, .slice A2 n2 c2] T fr)) (h1 : OwnV w A1 n1 c1 z1) (h2 : OwnV w A2 n2 c2 z2)
    (hne : ∀ g, A1 = some ⟨g, 0, none⟩ → A2 ≠ some ⟨g, 0, none⟩) (hn1 : n1 ≤ 1000000) (hn2 : n2 ≤ 1000000) (hB1 : ∀ g, A1 = some ⟨g, 0, none⟩ → w0.heap.size ≤ g) (hB2 : ∀ g, A2 = some ⟨g, 0, none⟩ → w0.heap.size ≤ g) (ht : Turned (fun _ => False) w0 w) :
    Calls Tryz.prog 22 #[.slice (some ⟨g, 0, none⟩) 2 cap] w (fun e w' => e = .returned (.bool true) ∧ Turned (fun _ => False) w0 w') := by
  have hcell : ∀ k, k < 2 → w.cell? ⟨g, 0 + k, none⟩ = some (.slice (two A1 A2 k) (two n1 n2 k) (two c1 c2 k)) := by
    intro k hk
    rw [Nat.zero_add]
    have hc := cell_of_row w g k _ T fr hL
    rcases (show k = 0 ∨ k = 1 by omega) with rfl | rfl
    · exact hc
    · exact hc
  refine (apartBytes_any g 0 2 cap (two A1 A2) (two n1 n2) (two c1 c2) (two z1 z2) w hcell (fun k hk => ?_) (fun j k hj hk hjk g hg => ?_) (by omega) (by omega) (fun k hk => ?_)).mono ?_
  · rcases (show k = 0 ∨ k = 1 by omega) with rfl | rfl
    · exact h1
    · exact h2
  · rcases (show k = 0 ∨ k = 1 by omega) with rfl | rfl
    · obtain rfl : j = 1 := by omega
      exact fun e => hne g e hg
    · obtain rfl : j = 0 := by omega
      exact hne g hg
  · rcases (show k = 0 ∨ k = 1 by omega) with rfl | rfl
    · exact hn1
    · exact hn2
  · rintro e w' ⟨he, h⟩
    refine ⟨he, ht.trans (W := fun _ => False) h (fun _ e => e) ?_⟩
    rintro i ⟨k, hk, e⟩
    right
    rcases (show k = 0 ∨ k = 1 by omega) with rfl | rfl
    · exact hB1 _ e
    · exact hB2 _ e
theorem getL_len {zs : List Int} {l : List UInt8} (h : getL zs = some l) : l.length ≤ 12 ∧ putOk l = true := by
  unfold getL at h
  split at h
  · cases h
  · split at h
    · cases h
    · split at h
      · rename_i hp
        injection h with h
        rw [h] at hp
        exact ⟨putOk_len hp, hp⟩
      · cases h
theorem putL_len (l : List UInt8) : (putL l).length ≤ 13 := by
  unfold putL
  split
  · rename_i h
    have := putOk_len h
    rw [List.length_cons, ints_length]
    omega
  · simp
set_option maxRecDepth 100000 in
set_option maxHeartbeats 4000000 in
theorem codeBytes_any (A : Option Addr) (n c : Nat) (zs : List Int) (w : World) (hv : VarsOk w) (hX : BytsOk w A n c zs) (_z : n ≤ 140737488355328) :
    Calls Tryz.prog 5 #[.slice A n c] w (OkNew w) := by
  obtain ⟨hy, hb, hnc, hcm⟩ := hX
  have hcm2 := hcm
  unfold maxLen at hcm2
  by_cases hgt : 100000 < n
  · have hi : (100000 : Int) < (n : Int) := by omega
    go_enter Tryz.func5, Tryz.ntmps5
    go_wp2_with fail
    refine (awake03_any _ hv).mono ?_
    rintro e w1 ⟨rfl, t1⟩
    go_wp2_with fail
    go_ret
    exact ⟨rfl, t1⟩
  · have hi : (n : Int) ≤ 100000 := by omega
    have hn : n ≤ 100000 := by omega
    have hy' := Lib.hid hy
    have hb' := Lib.hid hb
    have hl' := Lib.hid hy.len
    clear hy hb hgt
    go_enter Tryz.func5, Tryz.ntmps5
    go_wp2_with fail
    refine (lent_bytes A n c zs _ hy'.out (by omega)).mono ?_
    rintro e w1 ⟨g, rfl, r1, g1, t1⟩
    have R1 := Lib.hid r1
    have T1 := Lib.hid t1
    have G1 := Lib.hid g1
    clear r1 t1 g1
    go_wp2_with fail
    have r1c : RowB w1 5 g n (n + 12) zs := by
      have := R1.out.cut (k := n) (by omega)
      rw [List.take_left' (by exact hl'.out)] at this
      exact this
    have hg2 := get_any (some ⟨g, 0, none⟩) n (n + 12) zs w1 r1c.bytR hb'.out (by omega) (by unfold maxLen; omega)
    have hg8 := fun (w8 : World) (T8 : Turned (fun _ => False) w w8) => rget_any A n c zs w8 (hy'.out.turned T8 (fun _ _ _ e => e)).toBytR hb'.out hnc hcm
    have hg8' := Lib.hid hg8
    clear hg8 r1c
    refine hg2.mono ?_
    clear hg2
    unfold GetPost at hg8' ⊢
    rintro e w2 ⟨rfl, t2⟩
    have T2 := Lib.hid (T1.out.trans (W := fun _ => False) t2 (fun _ e => e) (fun _ e => e.elim))
    have R2 := Lib.hid (R1.out.turned t2 (fun e => e))
    clear t2 R1
    have hkp := fun (w3 : World) (T3 : Turned (fun _ => False) w w3) (hr : RowB w3 5 g (n + 12) (n + 12) (zs ++ marksB 1 12)) => kept_bytes A n c g (n + 12) zs w3 hr (hy'.out.turned T3 (fun _ _ _ e => e)).toBytR (by omega)
    have Hkp := Lib.hid hkp
    clear hkp
    cases hgl : getL zs with
    | none =>
      rw [hgl] at hg8'
      clear hgl
      simp only at hg8' ⊢
      have Hp := Lib.hid (fun (w : World) => put_any ⟨#[]⟩ w (by decide))
      rw [show putL (⟨#[]⟩ : ByteArray).data.toList = [0] by decide] at Hp
      go_wp2_with fail
      refine (Hkp.out _ T2.out R2.out).mono ?_
      rintro e w3 ⟨rfl, nq, rfl⟩
      go_wp2_with fail
      refine (over_bytes n g (n + 12) _ _ (R2.out.turned ((Turned.refl (fun _ => False) w2).drewN nq) (fun e => e)) (by omega)).mono ?_
      rintro e w4 ⟨rfl, _, t4⟩
      have T4 := Lib.hid ((T2.out.drewN nq).trans (W := fun _ => False) t4 (fun _ e => e) (fun k e => .inr (by subst e; exact G1.out)))
      clear t4
      go_wp2_with fail
      refine (hg8'.out _ T4.out).mono ?_
      rintro e w5 ⟨rfl, t5⟩
      have T5 := Lib.hid (T4.out.trans (W := fun _ => False) t5 (fun _ e => e) (fun _ e => e.elim))
      clear t5
      go_wp2_with fail
      refine (Hp.out _).mono ?_
      rintro e w6 ⟨A6, c6, rfl, o6, g6, t6⟩
      have T6 := Lib.hid (T5.out.trans (W := fun _ => False) t6 (fun _ e => e) (fun _ e => e.elim))
      have O6 := Lib.hid o6
      have G6 := Lib.hid (fun g e => Nat.le_trans T5.out.size (g6 g e))
      clear t6 o6 g6
      go_wp2_with fail
      refine (Hp.out _).mono ?_
      rintro e w7 ⟨A7, c7, rfl, o7, g7, t7⟩
      have T7 := Lib.hid (T6.out.trans (W := fun _ => False) t7 (fun _ e => e) (fun _ e => e.elim))
      have O7 := Lib.hid o7
      have O67 := Lib.hid (O6.out.turned t7 (fun _ _ e => e))
      have G7 := Lib.hid (fun g e => Nat.le_trans T6.out.size (g7 g e))
      have N7 := Lib.hid (show ∀ g, A6 = some ⟨g, 0, none⟩ → A7 ≠ some ⟨g, 0, none⟩ from fun g e e' => by have := O6.out.lt e; have := g7 g e'; omega)
      clear t7 o7 g7
      go_wp2_with fail
      have hL := heap_alloc_new w7 (.cells #[.slice A6 [(0 : Int)].length c6, .slice A7 [(0 : Int)].length c7] 22)
      refine (apart_two (w0 := w) hL (O67.out.turned ((Turned.refl (fun _ => False) w7).alloc _) (fun _ _ e => e)) (O7.out.turned ((Turned.refl (fun _ => False) w7).alloc _) (fun _ _ e => e)) N7.out (by decide) (by decide) G6.out G7.out (T7.out.alloc _)).mono ?_
      rintro e w8 ⟨rfl, t8⟩
      clear hL
      have T8 := Lib.hid t8
      clear t8
      go_wp2_with fail
      refine (awake03_any _ (hv.turned T8.out)).mono ?_
      rintro e w9 ⟨rfl, t9⟩
      go_wp2_with fail
      go_ret
      exact ⟨rfl, T8.out.trans (W := fun _ => False) t9 (fun _ e => e) (fun _ e => e.elim)⟩
    | some l =>
      rw [hgl] at hg8'
      obtain ⟨hl12, hok⟩ := getL_len hgl
      clear hgl
      simp only at hg8' ⊢
      have Hp := Lib.hid (fun (w : World) => put_any ⟨l.toArray⟩ w (by simp [ByteArray.size]; omega))
      rw [show (⟨l.toArray⟩ : ByteArray).data.toList = l by simp] at Hp
      have hpl := putL_len l
      generalize putL l = pz at Hp hpl
      have hse : ((⟨l.toArray⟩ : ByteArray).toList == (⟨l.toArray⟩ : ByteArray).toList) = true := by simp
      generalize (⟨l.toArray⟩ : ByteArray) = str at hg8' Hp hse
      have hll : (0 : Int) ≤ (l.length : Int) := by omega
      have hll2 : (l.length : Int) ≤ 12 := by omega
      generalize (l.length : Int) = ln at *
      go_wp2_with fail
      refine (Hkp.out _ T2.out R2.out).mono ?_
      rintro e w3 ⟨rfl, nq, rfl⟩
      go_wp2_with fail
      refine (over_bytes n g (n + 12) _ _ (R2.out.turned ((Turned.refl (fun _ => False) w2).drewN nq) (fun e => e)) (by omega)).mono ?_
      rintro e w4 ⟨rfl, _, t4⟩
      have T4 := Lib.hid ((T2.out.drewN nq).trans (W := fun _ => False) t4 (fun _ e => e) (fun k e => .inr (by subst e; exact G1.out)))
      clear t4
      go_wp2_with fail
      refine (hg8'.out _ T4.out).mono ?_
      rintro e w5 ⟨rfl, t5⟩
      have T5 := Lib.hid (T4.out.trans (W := fun _ => False) t5 (fun _ e => e) (fun _ e => e.elim))
      clear t5
      go_wp2_with fail
      refine (Hp.out _).mono ?_
      rintro e w6 ⟨A6, c6, rfl, o6, g6, t6⟩
      have T6 := Lib.hid (T5.out.trans (W := fun _ => False) t6 (fun _ e => e) (fun _ e => e.elim))
      have O6 := Lib.hid o6
      have G6 := Lib.hid (fun g e => Nat.le_trans T5.out.size (g6 g e))
      clear t6 o6 g6
      go_wp2_with fail
      refine (Hp.out _).mono ?_
      rintro e w7 ⟨A7, c7, rfl, o7, g7, t7⟩
      have T7 := Lib.hid (T6.out.trans (W := fun _ => False) t7 (fun _ e => e) (fun _ e => e.elim))
      have O7 := Lib.hid o7
      have O67 := Lib.hid (O6.out.turned t7 (fun _ _ e => e))
      have G7 := Lib.hid (fun g e => Nat.le_trans T6.out.size (g7 g e))
      have N7 := Lib.hid (show ∀ g, A6 = some ⟨g, 0, none⟩ → A7 ≠ some ⟨g, 0, none⟩ from fun g e e' => by have := O6.out.lt e; have := g7 g e'; omega)
      clear t7 o7 g7
      go_wp2_with fail
      have hL := heap_alloc_new w7 (.cells #[.slice A6 pz.length c6, .slice A7 pz.length c7] 22)
      refine (apart_two (w0 := w) hL (O67.out.turned ((Turned.refl (fun _ => False) w7).alloc _) (fun _ _ e => e)) (O7.out.turned ((Turned.refl (fun _ => False) w7).alloc _) (fun _ _ e => e)) N7.out (by omega) (by omega) G6.out G7.out (T7.out.alloc _)).mono ?_
      rintro e w8 ⟨rfl, t8⟩
      clear hL
      have T8 := Lib.hid t8
      clear t8
      go_wp2_with fail
      refine (awake03_any _ (hv.turned T8.out)).mono ?_
      rintro e w9 ⟨rfl, t9⟩
      go_wp2_with fail
      go_ret
      exact ⟨rfl, T8.out.trans (W := fun _ => False) t9 (fun _ e => e) (fun _ e => e.elim)⟩
end Go.Proofs.YtgglkcikimmhfaaGreatDoor
