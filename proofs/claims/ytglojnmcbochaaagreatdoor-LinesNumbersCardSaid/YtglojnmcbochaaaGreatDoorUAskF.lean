/-
 The document's small functions (storemanref13): fields, has, parts, others. No condition but numbers.
-/
import Derived.Test.YtglojnmcbochaaaGreatDoorUAskB
import Derived.Test.YtglojnmcbochaaaGreatDoorUCodQ
import Derived.Test.YtglojnmcbochaaaGreatDoorURdFh
import Derived.Deep.QuietTactic
import Derived.BigQuiet
namespace Go.Proofs.YtglojnmcbochaaaGreatDoor
open Go.RowKit Go.Maps
set_option linter.unusedVariables false
set_option linter.unusedSimpArgs false

set_option maxRecDepth 100000 in
set_option maxHeartbeats 1000000 in
theorem rfields_any (k : Int) (w : World) (hk : isByte k) : Calls Tryz.prog 107 #[.int .u8 k] w (RetSame (fieldsV k) w) := by
 unfold isByte at hk
 by_cases h15 : 15 < k
 ·have e' := hZ (show fieldsV k = .tuple #[.string ⟨#[]⟩, .bool false] by unfold fieldsV; rw [fieldsK_none (.inr h15)])
  have h1 : (k == 1) = false := by rw [beq_eq_false_iff_ne]; omega
  have h2 : (k == 2) = false := by rw [beq_eq_false_iff_ne]; omega
  have h3 : (k == 3) = false := by rw [beq_eq_false_iff_ne]; omega
  have h4 : (k == 4) = false := by rw [beq_eq_false_iff_ne]; omega
  have h5 : (k == 5) = false := by rw [beq_eq_false_iff_ne]; omega
  have h6 : (k == 6) = false := by rw [beq_eq_false_iff_ne]; omega
  have h7 : (k == 7) = false := by rw [beq_eq_false_iff_ne]; omega
  have h8 : (k == 8) = false := by rw [beq_eq_false_iff_ne]; omega
  have h9 : (k == 9) = false := by rw [beq_eq_false_iff_ne]; omega
  have h10 : (k == 10) = false := by rw [beq_eq_false_iff_ne]; omega
  have h11 : (k == 11) = false := by rw [beq_eq_false_iff_ne]; omega
  have h12 : (k == 12) = false := by rw [beq_eq_false_iff_ne]; omega
  have h13 : (k == 13) = false := by rw [beq_eq_false_iff_ne]; omega
  have h14 : (k == 14) = false := by rw [beq_eq_false_iff_ne]; omega
  have h15 : (k == 15) = false := by rw [beq_eq_false_iff_ne]; omega
  go_enter Tryz.func107, Tryz.ntmps107
  go_wp2
  go_ret2
  exact ⟨by rw [e'.out]; rfl, rfl⟩
 ·rcases (show k = 0 ∨ k = 1 ∨ k = 2 ∨ k = 3 ∨ k = 4 ∨ k = 5 ∨ k = 6 ∨ k = 7 ∨ k = 8 ∨ k = 9 ∨ k = 10 ∨ k = 11 ∨ k = 12 ∨ k = 13 ∨ k = 14 ∨ k = 15 by omega) with rfl | rfl | rfl | rfl | rfl | rfl | rfl | rfl | rfl | rfl | rfl | rfl | rfl | rfl | rfl | rfl
  all_goals
   go_enter Tryz.func107, Tryz.ntmps107
   go_wp2
   go_ret2
   exact ⟨rfl, rfl⟩
theorem rcode_right_any (x : List UInt8) (w : World) (h : strOk x) : Calls Tryz.prog 109 #[.string ⟨x.toArray⟩] w (RetSame (.bool (codeL x)) w) := rright_any (baOf x) w (by
 show x.toArray.size ≤ _
 unfold strOk at h
 simpa using h)
theorem getD_fst (l : List (List UInt8 × Int)) (i : Nat) : (l.map Prod.fst).getD i [] = itemAt l i := by
 unfold itemAt
 rw [List.getD_eq_getElem?_getD, List.getD_eq_getElem?_getD, List.getElem?_map]
 cases l[i]? <;> rfl
theorem not_contains_iff (l : List (List UInt8)) (x : List UInt8) (i : Nat) (hi : i ≤ l.length) : (l.take i).contains x = false ↔ ∀ k, k < i → l.getD k [] ≠ x := by
 have h := contains_take l x i hi
 constructor
 ·intro e k hk e2
  rw [e] at h
  have := (List.all_eq_true.1 h.symm) k (List.mem_range.2 hk)
  rw [e2] at this
  simp at this
 ·intro e
  have h2 : (List.range i).all (fun k => !(l.getD k [] == x)) = true := List.all_eq_true.2 (fun k hk => by
   have := e k (List.mem_range.1 hk)
   rw [beq_eq_false_iff_ne.2 this]
   rfl)
  rw [h2] at h
  simpa using h
def Rparts (l : List (List UInt8 × Int)) (n : Nat) (w : World) (i : Value) (wr : World) : Prop := ∃ j d : Nat, j ≤ n ∧ i = .int .i64 j ∧ wr = w.drewN d ∧ ((l.take j).all fun p => withinB p.2 1 1073741824) = true ∧ unlikeTo (l.map Prod.fst) j = true
def Rparts2 (l : List (List UInt8 × Int)) (j : Nat) (w : World) (i : Value) (wr : World) : Prop := ∃ k d : Nat, k ≤ j ∧ i = .int .i64 k ∧ wr = w.drewN d ∧ ∀ t, t < k → (l.map Prod.fst).getD t [] ≠ (l.map Prod.fst).getD j []
set_option maxRecDepth 100000 in
set_option maxHeartbeats 2000000 in
theorem rparts_any (s : Sl) (l : List (List UInt8 × Int)) (w : World) (h : SlQ w s l) (hok : ∀ p ∈ l, strOk p.1) : Calls Tryz.prog 110 #[.slice s.A s.n s.c] w (RetDraw (.bool (partsB l)) w) := by
 have mixed : Tryz.prog.follows .mixedOrders = true := by kernel_rfl
 obtain ⟨A, n, c⟩ := s
 have hle := h.le
 have hmx := h.max
 have hl := h.len
 simp only at hle hmx hl ⊢
 unfold maxLen at hmx
 have h' := hZ h
 have hl' := hZ hl
 clear h hl
 have hnl : (l.map Prod.fst).length = n := by rw [List.length_map]; exact hl'.out
 have hnl' := hZ hnl
 clear hnl
 go_enter Tryz.func110, Tryz.ntmps110
 go_wp2
 go_loopw [3] (fun i wr => Rparts l n w i wr) (fun i _ => n - (intOf i).toNat)
 case atStart => exact ⟨0, 0, Nat.zero_le _, rfl, rfl, rfl, rfl⟩
 case round =>
  obtain ⟨j, d, hj, rfl, hwr, hg1, hg2⟩ := hrel
  have G := hZ (And.intro hg1 hg2)
  have hwr' := hZ hwr
  have hw1 := h'.out.fresh ((Turned.refl (fun _ => False) w).drewN d)
  rw [← hwr] at hw1
  have hw1 := hZ hw1
  clear hg1 hg2 hwr
  by_cases hlt : j < n
  ·have hji : (j : Int) < (n : Int) := by omega
   obtain ⟨b, off, hA, hcell⟩ := hw1.out.cells (show 0 < n by omega)
   simp only at hA
   subst hA
   obtain ⟨q0, q1⟩ := hcell j hlt
   have hxo : strOk (itemAt l j) := hok _ (by
    rw [List.getD_eq_getElem?_getD, List.getElem?_eq_getElem (by rw [hl'.out]; exact hlt)]
    exact List.getElem_mem _)
   have hR := hZ (fun w2 => rcode_right_any (itemAt l j) w2 hxo)
   have hsn := hZ (take_snocD l j (by rw [hl'.out]; exact hlt))
   have hsu := hZ (unlikeTo_succ (l.map Prod.fst) j)
   have hno1 := hZ (fun (e : (codeL ((l.map Prod.fst).getD j []) && !((l.map Prod.fst).take j).contains ((l.map Prod.fst).getD j [])) = false) => show partsB l = false from by
    have := unlike_no (l := l.map Prod.fst) (j := j) (by rw [hnl'.out]; exact hlt) e
    unfold partsB
    rw [this]
    simp)
   have hno2 := hZ (fun (e : withinB (qtyAt l j) 1 1073741824 = false) => show partsB l = false from by
    cases hp : partsB l with
    | false => rfl
    | true =>
     exfalso
     unfold partsB at hp
     simp only [zD] at hp
     have := List.all_eq_true.1 hp.1 ((l.getD j ([], 0))) (by
      rw [List.getD_eq_getElem?_getD, List.getElem?_eq_getElem (by rw [hl'.out]; exact hlt)]
      exact List.getElem_mem _)
     rw [show (l.getD j ([], 0)).2 = qtyAt l j from rfl, e] at this
     cases this)
   rw [getD_fst] at hsu hno1
   unfold strV at q0
   have hcl := hZ hcell
   clear hcell hxo
   cases hcr : codeL (itemAt l j) with
   | false =>
    rw [hcr] at hR hno1
    clear hcr
    go_wp2_with fail
    refine (hR.out _).mono ?_
    rintro e w2 ⟨rfl, rfl⟩
    go_wp2_with fail
    go_ret
    exact ⟨ret_bool (hno1.out rfl).symm, d, hwr'.out⟩
   | true =>
    rw [hcr] at hR hno1 hsu
    have hcr' := hZ hcr
    clear hcr
    generalize hqv : qtyAt l j = qv at *
    by_cases hq1 : qv < 1
    ·have F := hZ (hno2.out (by unfold withinB; simp; omega))
     go_wp2_with fail
     refine (hR.out _).mono ?_
     rintro e w2 ⟨rfl, rfl⟩
     go_wp2_with fail
     go_ret
     exact ⟨ret_bool F.out.symm, d, hwr'.out⟩
    ·by_cases hq2 : 1073741824 < qv
     ·have F := hZ (hno2.out (by unfold withinB; simp; omega))
      have hq1i : (1 : Int) ≤ qv := by omega
      go_wp2_with fail
      refine (hR.out _).mono ?_
      rintro e w2 ⟨rfl, rfl⟩
      go_wp2_with fail
      go_ret
      exact ⟨ret_bool F.out.symm, d, hwr'.out⟩
     ·have hq1i : (1 : Int) ≤ qv := by omega
      have hq2i : qv ≤ 1073741824 := by omega
      have hwi := hZ (show withinB qv 1 1073741824 = true from by unfold withinB; simp; omega)
      go_wp2_with fail
      refine (hR.out _).mono ?_
      rintro e w2 ⟨rfl, rfl⟩
      go_wp2_with fail
      have hqv' := hZ hqv
      clear hqv
      obtain ⟨wo, hwo⟩ : ∃ wo : World, wo = wr := ⟨_, rfl⟩
      have hwo' := hZ hwo
      go_loopw [4] (fun i wr => Rparts2 l j wo i wr) (fun i _ => j - (intOf i).toNat)
      case atStart => exact ⟨0, 0, Nat.zero_le _, rfl, hwo.symm, fun t ht => absurd ht (by omega)⟩
      case round =>
       obtain ⟨k, d2, hk, rfl, hwr2, hall⟩ := hrel
       have hall := hZ hall
       have hwr2' := hZ (show wr = w.drewN (d + d2) from by rw [hwr2, hwo'.out, hwr'.out, World.drewN_drewN])
       by_cases hkl : k < j
       ·have hki : (k : Int) < (j : Int) := by omega
        have hkn : (k : Int) < (n : Int) := by omega
        have z0 : wr.cell? ⟨b, off + k * 2, none⟩ = some (.string ⟨(itemAt l k).toArray⟩) := by
         rw [hwr2, hwo'.out]
         exact (hcl.out k (by omega)).1
        have z1 : wr.cell? ⟨b, off + j * 2, none⟩ = some (.string ⟨(itemAt l j).toArray⟩) := by
         rw [hwr2, hwo'.out]
         exact (hcl.out j hlt).1
        have hse2 := str_beq (itemAt l k) (itemAt l j)
        by_cases he : itemAt l k = itemAt l j
        ·have F := hZ (hno1.out (by
          have hc : ((l.map Prod.fst).take j).contains (itemAt l j) = true := by
           apply Classical.byContradiction
           intro hnc
           have h5 := (not_contains_iff (l.map Prod.fst) (itemAt l j) j (by rw [hnl'.out]; omega)).1 (by simpa using hnc) k hkl
           rw [getD_fst] at h5
           exact h5 he
          rw [hc]
          rfl))
         rw [decide_eq_true he] at hse2
         clear hwr2 hwo
         generalize (⟨(itemAt l k).toArray⟩ : ByteArray) = xk at z0 hse2
         generalize (⟨(itemAt l j).toArray⟩ : ByteArray) = xj at z1 hse2
         clear he
         go_wp2
         go_quiet (fail)
         go_wp2
         go_ret
         exact ⟨ret_bool F.out.symm, d + d2 + nq, by rw [hwr2'.out, World.drewN_drewN]⟩
        ·have he' := hZ he
         rw [decide_eq_false he] at hse2
         clear he
         have hwr3 := hZ hwr2
         clear hwr2 hwo
         generalize (⟨(itemAt l k).toArray⟩ : ByteArray) = xk at z0 hse2
         generalize (⟨(itemAt l j).toArray⟩ : ByteArray) = xj at z1 hse2
         go_wp2
         go_quiet (fail)
         go_wp2
         have R := hZ (show Rparts2 l j wo (.int .i64 ((k + 1 : Nat) : Int)) (wr.drewN nq) from ⟨k + 1, d2 + nq, hkl, rfl, by rw [hwr3.out, World.drewN_drewN], fun t ht => by
          by_cases e : t = k
          ·subst e
           rw [getD_fst, getD_fst]
           exact he'.out
          ·exact hall.out t (by omega)⟩)
         go_roundw
         case rel =>
          first
          | exact R.out
          | ((repeat apply Exists.intro); exact ⟨R.out, rfl⟩)
         case measure => simp [intOf] <;> omega
       ·have hki : (j : Int) ≤ (k : Int) := by omega
        have R := hZ (show Rparts l n w (.int .i64 ((j + 1 : Nat) : Int)) wr from ⟨j + 1, d + d2, hlt, rfl, hwr2'.out, by rw [hsn.out, List.all_append, G.out.1]; simp [hqv'.out, hwi.out], by rw [hsu.out, G.out.2, (not_contains_iff _ _ _ (by rw [hnl'.out]; omega)).2 (fun t ht => by have h5 := hall.out t (by omega); rw [getD_fst l j] at h5; exact h5)]; rfl⟩)
        clear hwr2 hwo
        go_wp2
        go_roundw
        case rel =>
         first
         | exact R.out
         | ((repeat apply Exists.intro); exact ⟨R.out, rfl⟩)
        case measure => simp [intOf] <;> omega
  ·have hge : (n : Int) ≤ (j : Int) := by omega
   have hjn : j = n := by omega
   have hE := hZ (show partsB l = (decide (1 ≤ n) && decide (n ≤ 8)) from by
    have h1 := G.out.1
    have h2 := G.out.2
    rw [hjn, List.take_of_length_le (by rw [hl'.out]; exact Nat.le_refl _)] at h1
    rw [hjn, ← hnl'.out] at h2
    unfold partsB
    rw [h1, show unlikeB (l.map Prod.fst) = true from h2, hl'.out]
    simp
    congr 1)
   clear hjn
   by_cases h1 : 1 ≤ n
   ·by_cases h8 : n ≤ 8
    ·have h1i : (1 : Int) ≤ (n : Int) := by omega
     have h8i : (n : Int) ≤ 8 := by omega
     go_wp2
     go_ret
     exact ⟨ret_bool (by rw [hE.out]; simp [h1, h8]), d, hwr'.out⟩
    ·have h1i : (1 : Int) ≤ (n : Int) := by omega
     have h8i : (8 : Int) < (n : Int) := by omega
     have h8d : decide ((n : Int) ≤ 8) = false := decide_eq_false (by omega)
     go_wp2
     go_ret
     exact ⟨ret_bool (by rw [hE.out]; simp [h8]), d, hwr'.out⟩
   ·have h1i : (n : Int) < 1 := by omega
    have h1d : decide ((1 : Int) ≤ (n : Int)) = false := decide_eq_false (by omega)
    go_wp2
    go_ret
    exact ⟨ret_bool (by rw [hE.out]; simp [h1]), d, hwr'.out⟩
def Rothers (l : List (List UInt8)) (item : List UInt8) (n : Nat) (w : World) (i : Value) (wr : World) : Prop := ∃ j d : Nat, j ≤ n ∧ i = .int .i64 j ∧ wr = w.drewN d ∧ unlikeTo l j = true ∧ (∀ k, k < j → l.getD k [] ≠ item)
def Rothers2 (l : List (List UInt8)) (j : Nat) (w : World) (i : Value) (wr : World) : Prop := ∃ k d : Nat, k ≤ j ∧ i = .int .i64 k ∧ wr = w.drewN d ∧ ∀ t, t < k → l.getD t [] ≠ l.getD j []
set_option maxRecDepth 100000 in
set_option maxHeartbeats 2000000 in
theorem rothers_any (s : Sl) (l : List (List UInt8)) (item : List UInt8) (w : World) (h : SlT w s l) (hok : ∀ p ∈ l, strOk p) : Calls Tryz.prog 111 #[.slice s.A s.n s.c, .string ⟨item.toArray⟩] w (RetDraw (.bool (othersB l item)) w) := by
 have mixed : Tryz.prog.follows .mixedOrders = true := by kernel_rfl
 obtain ⟨A, n, c⟩ := s
 have hle := h.le
 have hmx := h.max
 have hl := h.len
 simp only at hle hmx hl ⊢
 unfold maxLen at hmx
 have h' := hZ h
 have hl' := hZ hl
 clear h hl
 have hnl : l.length = n := by exact hl'.out
 have hnl' := hZ hnl
 clear hnl
 go_enter Tryz.func111, Tryz.ntmps111
 go_wp2
 go_loopw [5] (fun i wr => Rothers l item n w i wr) (fun i _ => n - (intOf i).toNat)
 case atStart => exact ⟨0, 0, Nat.zero_le _, rfl, rfl, rfl, fun k hk => absurd hk (by omega)⟩
 case round =>
  obtain ⟨j, d, hj, rfl, hwr, hg1, hg2⟩ := hrel
  have G := hZ (And.intro hg1 hg2)
  have hwr' := hZ hwr
  have hw1 := h'.out.fresh ((Turned.refl (fun _ => False) w).drewN d)
  rw [← hwr] at hw1
  have hw1 := hZ hw1
  clear hg1 hg2 hwr
  by_cases hlt : j < n
  ·have hji : (j : Int) < (n : Int) := by omega
   obtain ⟨b, off, hA, hcell⟩ := hw1.out.cells (show 0 < n by omega)
   simp only at hA
   subst hA
   have q0 := hcell j hlt
   have hxo : strOk (l.getD j []) := hok _ (by
    rw [List.getD_eq_getElem?_getD, List.getElem?_eq_getElem (by rw [hl'.out]; exact hlt)]
    exact List.getElem_mem _)
   have hR := hZ (fun w2 => rcode_right_any (l.getD j []) w2 hxo)
   have hsu := hZ (unlikeTo_succ l j)
   have hno1 := hZ (fun (e : (codeL (l.getD j []) && !(l.take j).contains (l.getD j [])) = false) => show othersB l item = false from by
    have := unlike_no (l := l) (j := j) (by rw [hnl'.out]; exact hlt) e
    unfold othersB
    rw [this]
    simp)
   have hno2 := hZ (fun (e : l.getD j [] = item) => show othersB l item = false from by
    have : l.contains item = true := by
     rw [List.contains_iff_mem, ← e, List.getD_eq_getElem?_getD, List.getElem?_eq_getElem (by rw [hl'.out]; exact hlt)]
     exact List.getElem_mem _
    unfold othersB
    rw [this]
    simp)
   unfold strV at q0
   have hcl := hZ hcell
   clear hcell hxo
   cases hcr : codeL (l.getD j []) with
   | false =>
    rw [hcr] at hR hno1
    clear hcr
    go_wp2_with fail
    refine (hR.out _).mono ?_
    rintro e w2 ⟨rfl, rfl⟩
    go_wp2_with fail
    go_ret
    exact ⟨ret_bool (hno1.out rfl).symm, d, hwr'.out⟩
   | true =>
    rw [hcr] at hR hno1 hsu
    have hcr' := hZ hcr
    clear hcr
    have hse := str_beq (l.getD j []) item
    generalize (⟨(l.getD j []).toArray⟩ : ByteArray) = xv at q0 hse hR
    generalize (⟨item.toArray⟩ : ByteArray) = xit at hse ⊢
    by_cases hq1 : l.getD j [] = item
    ·have F := hZ (hno2.out hq1)
     rw [decide_eq_true hq1] at hse
     go_wp2_with fail
     refine (hR.out _).mono ?_
     rintro e w2 ⟨rfl, rfl⟩
     go_wp2_with fail
     go_ret
     exact ⟨ret_bool F.out.symm, d, hwr'.out⟩
    ·rw [decide_eq_false hq1] at hse
     have hq1' := hZ hq1
     clear hq1
     go_wp2_with fail
     refine (hR.out _).mono ?_
     rintro e w2 ⟨rfl, rfl⟩
     go_wp2_with fail
     obtain ⟨wo, hwo⟩ : ∃ wo : World, wo = wr := ⟨_, rfl⟩
     have hwo' := hZ hwo
     go_loopw [6] (fun i wr => Rothers2 l j wo i wr) (fun i _ => j - (intOf i).toNat)
     case atStart => exact ⟨0, 0, Nat.zero_le _, rfl, hwo.symm, fun t ht => absurd ht (by omega)⟩
     case round =>
      obtain ⟨k, d2, hk, rfl, hwr2, hall⟩ := hrel
      have hall := hZ hall
      have hwr2' := hZ (show wr = w.drewN (d + d2) from by rw [hwr2, hwo'.out, hwr'.out, World.drewN_drewN])
      by_cases hkl : k < j
      ·have hki : (k : Int) < (j : Int) := by omega
       have hkn : (k : Int) < (n : Int) := by omega
       have z0 : wr.cell? ⟨b, off + k, none⟩ = some (.string ⟨(l.getD k []).toArray⟩) := by
        rw [hwr2, hwo'.out]
        exact hcl.out k (by omega)
       have z1 : wr.cell? ⟨b, off + j, none⟩ = some (.string ⟨(l.getD j []).toArray⟩) := by
        rw [hwr2, hwo'.out]
        exact hcl.out j hlt
       have hse2 := str_beq (l.getD k []) (l.getD j [])
       by_cases he : l.getD k [] = l.getD j []
       ·have F := hZ (hno1.out (by
         have hc : (l.take j).contains (l.getD j []) = true := by
          apply Classical.byContradiction
          intro hnc
          have h5 := (not_contains_iff l (l.getD j []) j (by rw [hnl'.out]; omega)).1 (by simpa using hnc) k hkl
          skip
          exact h5 he
         rw [hc]
         rfl))
        rw [decide_eq_true he] at hse2
        clear hwr2 hwo
        generalize (⟨(l.getD k []).toArray⟩ : ByteArray) = xk at z0 hse2
        generalize (⟨(l.getD j []).toArray⟩ : ByteArray) = xj at z1 hse2
        clear he
        go_wp2
        go_quiet (fail)
        go_wp2
        go_ret
        exact ⟨ret_bool F.out.symm, d + d2 + nq, by rw [hwr2'.out, World.drewN_drewN]⟩
       ·have he' := hZ he
        rw [decide_eq_false he] at hse2
        clear he
        have hwr3 := hZ hwr2
        clear hwr2 hwo
        generalize (⟨(l.getD k []).toArray⟩ : ByteArray) = xk at z0 hse2
        generalize (⟨(l.getD j []).toArray⟩ : ByteArray) = xj at z1 hse2
        go_wp2
        go_quiet (fail)
        go_wp2
        have R := hZ (show Rothers2 l j wo (.int .i64 ((k + 1 : Nat) : Int)) (wr.drewN nq) from ⟨k + 1, d2 + nq, hkl, rfl, by rw [hwr3.out, World.drewN_drewN], fun t ht => by
         by_cases e : t = k
         ·subst e
          skip
          exact he'.out
         ·exact hall.out t (by omega)⟩)
        go_roundw
        case rel =>
         first
         | exact R.out
         | ((repeat apply Exists.intro); exact ⟨R.out, rfl⟩)
        case measure => simp [intOf] <;> omega
      ·have hki : (j : Int) ≤ (k : Int) := by omega
       have R := hZ (show Rothers l item n w (.int .i64 ((j + 1 : Nat) : Int)) wr from ⟨j + 1, d + d2, hlt, rfl, hwr2'.out, by rw [hsu.out, G.out.1, (not_contains_iff _ _ _ (by rw [hnl'.out]; omega)).2 (fun t ht => hall.out t (by omega))]; rfl, fun t ht => by
         by_cases e : t = j
         ·subst e; exact hq1'.out
         ·exact G.out.2 t (by omega)⟩)
       clear hwr2 hwo
       go_wp2
       go_roundw
       case rel =>
        first
        | exact R.out
        | ((repeat apply Exists.intro); exact ⟨R.out, rfl⟩)
       case measure => simp [intOf] <;> omega
  ·have hge : (n : Int) ≤ (j : Int) := by omega
   have hjn : j = n := by omega
   have hE := hZ (show othersB l item = decide (n ≤ 4) from by
    have h1 := G.out.1
    have h2 := G.out.2
    rw [hjn, ← hnl'.out] at h1
    have h3 := (not_contains_iff l item l.length (Nat.le_refl _)).2 (fun k hk => h2 k (by have := hl'.out; omega))
    rw [List.take_length] at h3
    unfold othersB
    rw [show unlikeB l = true from h1, h3, hl'.out]
    simp)
   clear hjn
   by_cases h4 : n ≤ 4
   ·have h4i : (n : Int) ≤ 4 := by omega
    go_wp2
    go_ret
    exact ⟨ret_bool (by rw [hE.out]; simp [h4]), d, hwr'.out⟩
   ·have h4i : (4 : Int) < (n : Int) := by omega
    have h4d : decide ((n : Int) ≤ 4) = false := decide_eq_false (by omega)
    go_wp2
    go_ret
    exact ⟨ret_bool (by rw [hE.out]; simp [h4]), d, hwr'.out⟩
end Go.Proofs.YtglojnmcbochaaaGreatDoor

